/-
  Patches: the order and the users of a node; contracts of both sides.
-/
import Derived.Test.YtonkdndpfnapjaaGreatPatV
namespace Go.Proofs.YtonkdndpfnapjaaGreat
open Go.ChangeShapes Go.WideShapes Go.ChangeAt Go.RowKit Go.Sort
set_option linter.unusedVariables false

/-- a list of its own and a code -/
def RetI (w : World) (L : List Int) (code : Int) (e : Ending) (w' : World) : Prop := ∃ u M, e = .returned (.tuple #[u, .int .i64 code]) ∧ OwnLI w.heap.size w' u L M ∧ Dis M ∧ Below w.heap.size w w'
theorem RetI.mk {w w' : World} {L : List Int} {code : Int} {u : Value} {B : Nat} (h : OwnI B w' u L) (hB : w.heap.size ≤ B) (hb : Below w.heap.size w w') : RetI w L code (.returned (.tuple #[u, .int .i64 code])) w' :=
  ⟨u, [u], rfl, ⟨h.mono hB, rfl⟩, List.pairwise_singleton _ _, hb⟩
def orderRes (x : PatchD) : List Int := if okB x then orderL x.nodes else []
def orderCode (x : PatchD) : Int := if formedB x then (if (orderL x.nodes).length = x.nodes.length then 0 else 7) else 1
theorem orderRes_small (x : PatchD) : cntI (orderRes x) ≤ 1048576 := by
  unfold cntI orderRes
  split
  · rename_i h
    have h1 := (formed_iff.1 (by unfold okB at h; rw [Bool.and_eq_true] at h; exact h.1)).2.2.1
    have h2 := orderL_len x.nodes
    omega
  · show (0 : Nat) ≤ 1048576; omega
/-- the code for a node of a patch -/
def askCode (x : PatchD) (node : Int) : Int := if okB x then (if inB node 0 (x.nodes.length - 1) then 0 else 2) else 1
theorem askCode_of {x : PatchD} {node : Int} {a b : Bool} (h1 : okB x = a) (h2 : inB node 0 (x.nodes.length - 1) = b) : askCode x node = if a then (if b then 0 else 2) else 1 := by unfold askCode; rw [h1, h2]
theorem okB_len {x : PatchD} (h : okB x = true) : formedB x = true ∧ (orderL x.nodes).length = x.nodes.length ∧ x.nodes.length ≤ 24 := by
  unfold okB at h
  rw [Bool.and_eq_true, decide_eq_true_iff] at h
  exact ⟨h.1, h.2, (formed_iff.1 h.1).2.2.1⟩
theorem has_any {p : Option Addr} {c : Nat} {xs : List Int} (n : Int) (w : World) (h : RdI w p xs) :
    Calls Tryz.prog 107 #[.slice p xs.length c, .int .i64 n] w fun e w' => e = .returned (.bool (xs.any (fun y => n == y))) ∧ w = w' := by
  have hlen := h.len
  unfold maxLen at hlen
  go_enter Tryz.func107, Tryz.ntmps107
  go_wp2_with fail
  go_loop [9] (fun i => ∃ k : Nat, k ≤ xs.length ∧ i = .int .i64 k ∧ (xs.take k).any (fun y => n == y) = false) (fun i => xs.length - (intOf i).toNat)
  case atStart => exact ⟨0, Nat.zero_le _, rfl, by simp⟩
  case round =>
    obtain ⟨k, hk, rfl, hall⟩ := hrel
    have HA := Lib.hid hall; clear hall
    by_cases hlt : k < xs.length
    · obtain ⟨b, o, rfl, hb, hc⟩ := h.pos hlt
      have hck := hc k hlt
      clear hc
      generalize hx : xs[k] = x at hck
      have HX := Lib.hid hx; clear hx
      cases hs : (n == x)
      · go_wp2_with fail
        go_round
        case rel => exact ⟨k + 1, by omega, by go_num, any_step hlt HA.out (by rw [HX.out]; exact hs)⟩
        case measure => simp [intOf] <;> omega
      · go_wp2_with fail
        go_ret
        exact ⟨ret_bool (any_true hlt (by rw [HX.out]; exact hs)).symm, rfl⟩
    · obtain rfl : k = xs.length := by omega
      go_wp2_with fail
      go_ret
      exact ⟨ret_bool (any_done HA.out).symm, rfl⟩
theorem any_contains' (xs : List Int) (n : Int) : xs.any (fun y => n == y) = xs.contains n := by
  rw [Bool.eq_iff_iff]
  simp
def usersK (nodes : List NodeD) (node : Int) (k : Nat) : List Int := ((List.range k).filter fun i => (nodes.getD i ⟨0, 0, 0, []⟩).src.contains node).map fun i => ((i : Nat) : Int)
theorem usersK_succ {nodes : List NodeD} {node : Int} {k : Nat} (h : k < nodes.length) {b : Bool} (hb : nodes[k].src.contains node = b) : usersK nodes node (k + 1) = usersK nodes node k ++ (if b then [(k : Int)] else []) := by
  unfold usersK
  rw [List.range_succ, List.filter_append, List.map_append]
  congr 1
  rw [List.filter_cons, getD_node h, hb]
  cases b <;> rfl
theorem usersK_len (nodes : List NodeD) (node : Int) (k : Nat) : (usersK nodes node k).length ≤ k := by
  unfold usersK
  rw [List.length_map]
  have := List.length_filter_le (fun i => (nodes.getD i ⟨0, 0, 0, []⟩).src.contains node) (List.range k)
  rw [List.length_range] at this
  exact this
def usersRes (x : PatchD) (node : Int) : List Int := if askCode x node = 0 then usersK x.nodes node x.nodes.length else []
theorem askCode_zero {x : PatchD} {node : Int} : askCode x node = 0 ↔ okB x = true ∧ inB node 0 (x.nodes.length - 1) = true := by
  unfold askCode
  cases okB x <;> cases inB node 0 ((x.nodes.length : Int) - 1) <;> simp
theorem usersRes_small (x : PatchD) (node : Int) : cntI (usersRes x node) ≤ 1048576 := by
  unfold cntI usersRes
  split
  · rename_i h
    have h1 := (okB_len (askCode_zero.1 h).1).2.2
    have h2 := usersK_len x.nodes node x.nodes.length
    omega
  · show (0 : Nat) ≤ 1048576; omega
end Go.Proofs.YtonkdndpfnapjaaGreat
