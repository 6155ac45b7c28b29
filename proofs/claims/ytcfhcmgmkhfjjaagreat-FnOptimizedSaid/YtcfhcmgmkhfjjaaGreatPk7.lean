/-
  Several texts in one: RwOne.
-/
import Derived.Test.YtcfhcmgmkhfjjaaGreatPk6
import Derived.Test.YtcfhcmgmkhfjjaaGreatPk3
import Derived.Deep.RegionLaw
import Derived.StillTailTactics
import Derived.Lib.QuietBelow
import Derived.Deep.RegionWith
import Derived.BigQuiet
namespace Go.Proofs.YtcfhcmgmkhfjjaaGreat
set_option linter.unusedVariables false

/-! ### in a valid patch no node but a delay waits for itself -/
def NoSelf (nodes : List NodeD) (out : List Int) : Prop := ∀ o ∈ out, o ∉ waits (nodes.getD o.toNat ⟨0, 0, 0, []⟩)
theorem ord_noSelf {nodes : List NodeD} : ∀ (f : Nat) (out : List Int), NoSelf nodes out → NoSelf nodes (ord nodes f out)
  | 0, out, h => h
  | f + 1, out, h => by
    rcases e : nxt nodes out 0 nodes.length with _ | i
    · rw [ord_none e]; exact h
    · rw [ord_some e]
      obtain ⟨-, hi, hr⟩ := nxt_some e
      refine ord_noSelf f _ fun o ho => ?_
      rcases List.mem_append.1 ho with ho | ho
      · exact h o ho
      · simp only [List.mem_singleton] at ho
        subst ho
        have h1 := rdy_free hr
        unfold rdy at hr
        simp only [Bool.and_eq_true, List.all_eq_true] at hr
        intro hm
        have := hr.2 _ (by simpa using hm)
        rw [h1] at this
        cases this
theorem ord_free {nodes : List NodeD} : ∀ (f : Nat) (out : List Int), free (ord nodes f out) nodes.length + (ord nodes f out).length = free out nodes.length + out.length
  | 0, out => rfl
  | f + 1, out => by
    rcases e : nxt nodes out 0 nodes.length with _ | i
    · rw [ord_none e]
    · rw [ord_some e, ord_free f]
      obtain ⟨-, hi, hr⟩ := nxt_some e
      have := free_add out i (rdy_free hr) nodes.length (by omega)
      rw [List.length_append, List.length_singleton]
      omega
theorem ok_noSelf {x : PatchD} (h : okB x = true) {i : Nat} (hi : i < x.nodes.length) (hk : x.nodes[i].kind ≠ 6) : (i : Int) ∉ x.nodes[i].src := by
  unfold okB at h
  simp only [Bool.and_eq_true, decide_eq_true_eq] at h
  have hl := h.2
  have hf := ord_free (nodes := x.nodes) x.nodes.length []
  rw [free_nil] at hf
  have hO : orderL x.nodes = ord x.nodes x.nodes.length [] := rfl
  rw [← hO] at hf
  have h0 : free (orderL x.nodes) x.nodes.length = 0 := by simp at hf; omega
  have hc : (orderL x.nodes).contains (i : Int) = true := by
    cases hc : (orderL x.nodes).contains (i : Int)
    · have := free_pos hc hi; omega
    · rfl
  have hm : (i : Int) ∈ orderL x.nodes := by simpa using hc
  have := ord_noSelf (nodes := x.nodes) x.nodes.length [] (by simp [NoSelf]) _ hm
  have e : x.nodes.getD (i : Int).toNat ⟨0, 0, 0, []⟩ = x.nodes[i] := by
    rw [Int.toNat_natCast, List.getD_eq_getElem?_getD, List.getElem?_eq_getElem hi]; rfl
  rw [e] at this
  unfold waits at this
  rwa [if_neg hk] at this

/-! ### the rules -/
/-- input k of node i -/
def inp (x : PatchD) (i : Int) (k : Nat) : Int := (nodeAt x.nodes i).src.getD k 0
/-- the node that input k of node i comes from -/
def frm (x : PatchD) (i : Int) (k : Nat) : NodeD := nodeAt x.nodes (inp x i k)
def isC (n : NodeD) : Bool := n.kind == 2
def isCO (n : NodeD) (a : Int) : Bool := n.kind == 2 && n.a == a
def foldL : List Int := [3, 4, 5, 9, 10, 11, 13, 15]
def constB (x : PatchD) (i : Int) : Bool := foldL.contains (nodeAt x.nodes i).kind && (nodeAt x.nodes i).src.all (fun j => isC (nodeAt x.nodes j))
def constIn (x : PatchD) (i : Int) : List Int := (nodeAt x.nodes i).src.map fun j => (nodeAt x.nodes j).a
def constV (x : PatchD) (i : Int) : Int := outP (nodeAt x.nodes i) x.tables (constIn x i) []
def zeroK (k : Int) (a : Int) (s0 s1 : Int) (f0 : NodeD) : Bool :=
  if k = 5 ∨ k = 11 then a == 0 else if k = 4 then s0 == s1 else if k = 6 ∨ k = 7 ∨ k = 8 ∨ k = 17 then isCO f0 0 else false
def zeroB (x : PatchD) (i : Int) : Bool := zeroK (nodeAt x.nodes i).kind (nodeAt x.nodes i).a (inp x i 0) (inp x i 1) (frm x i 0)
def sameK (k a : Int) (s0 s1 s2 : Int) (f0 f1 : NodeD) : Int :=
  if k = 5 then (if a = 1 then s0 else -1)
  else if k = 10 then (if a = 0 then s0 else -1)
  else if k = 3 then (if isCO f0 0 then s1 else if isCO f1 0 then s0 else -1)
  else if k = 4 then (if isCO f1 0 then s0 else -1)
  else if k = 16 then (if isC f1 ∧ 0 < f1.a then s0 else -1)
  else if k = 15 then (if s1 = s2 ∨ (isC f0 ∧ 0 ≤ f0.a) then s1 else if isC f0 then s2 else -1)
  else -1
def sameI (x : PatchD) (i : Int) : Int := sameK (nodeAt x.nodes i).kind (nodeAt x.nodes i).a (inp x i 0) (inp x i 1) (inp x i 2) (frm x i 0) (frm x i 1)
def factB (x : PatchD) (i : Int) : Bool := (nodeAt x.nodes i).kind == 9 && (isC (frm x i 0) || isC (frm x i 1))
/-- the gain that a product becomes -/
def factN (x : PatchD) (i : Int) : NodeD := if isC (frm x i 0) then ⟨5, (frm x i 0).a, 0, [inp x i 1]⟩ else ⟨5, (frm x i 1).a, 0, [inp x i 0]⟩
/-- a gain of a gain, a delay of a delay -/
def joinB (x : PatchD) (i : Int) (k : Int) : Bool := ((nodeAt x.nodes i).kind == k && (frm x i 0).kind == k) && !(inp x i 0 == i)
def joinA (x : PatchD) (i : Int) (k : Int) : Int := if k = 5 then smp ((nodeAt x.nodes i).a * (frm x i 0).a) else (nodeAt x.nodes i).a + (frm x i 0).a
def joinOk (x : PatchD) (i : Int) (k : Int) : Bool := joinB x i k && (k == 5 || decide (joinA x i k ≤ 16))
def joinN (x : PatchD) (i : Int) (k : Int) : NodeD := ⟨k, joinA x i k, 0, (frm x i 0).src⟩
/-- the first needed node before node i that is equal to it -/
def twinI (x : PatchD) (i : Int) : Int := ((need x).find? fun k => decide (k < i) && decide (nodeAt x.nodes k = nodeAt x.nodes i)).getD (-1)
def ruleP (x : PatchD) (i : Int) : Int :=
  if (need x).contains i then
    (if constB x i then 1 else if zeroB x i then 2 else if 0 ≤ sameI x i then 3 else if factB x i then 4 else if joinOk x i 5 then 5 else if joinOk x i 6 then 6 else if 0 ≤ twinI x i then 7 else 0)
  else 0
def setN (x : PatchD) (i : Int) (n : NodeD) : PatchD := { x with nodes := x.nodes.set i.toNat n }
def swapL (i b : Int) (xs : List Int) : List Int := xs.map fun s => if s = i then b else s
def replP (x : PatchD) (i b : Int) : PatchD := { x with nodes := x.nodes.map (fun n => { n with src := swapL i b n.src }), outputs := swapL i b x.outputs }
def afterP (x : PatchD) (i r : Int) : PatchD :=
  if r = 1 then setN x i ⟨2, constV x i, 0, []⟩ else if r = 2 then setN x i ⟨2, 0, 0, []⟩ else if r = 3 then replP x i (sameI x i) else if r = 4 then setN x i (factN x i)
  else if r = 5 then setN x i (joinN x i 5) else if r = 6 then setN x i (joinN x i 6) else if r = 7 then replP x i (twinI x i) else x

/-! ### what a node of a formed patch has -/
theorem nodeAt_mem {x : PatchD} {i : Int} (h0 : 0 ≤ i) (h1 : i < (x.nodes.length : Int)) : nodeAt x.nodes i ∈ x.nodes := by
  unfold nodeAt
  rw [List.getD_eq_getElem?_getD, List.getElem?_eq_getElem (by omega)]
  exact List.getElem_mem _
theorem nodeAt_ok {x : PatchD} (hf : formedB x = true) {i : Int} (h0 : 0 ≤ i) (h1 : i < (x.nodes.length : Int)) : nodeB (nodeAt x.nodes i) x.tables.length = true := by
  have := (formed_iff.1 hf).2.2.2.2.1 _ (nodeAt_mem h0 h1)
  unfold ndB at this
  simp only [Bool.and_eq_true] at this
  exact this.1.1
theorem nodeAt_src {x : PatchD} (hf : formedB x = true) {i : Int} (h0 : 0 ≤ i) (h1 : i < (x.nodes.length : Int)) : ∀ j ∈ (nodeAt x.nodes i).src, 0 ≤ j ∧ j < (x.nodes.length : Int) := fun j hj =>
  ndB_src ((formed_iff.1 hf).2.2.2.2.1 _ (nodeAt_mem h0 h1)) j hj
theorem nodeB_ar {n : NodeD} {t : Int} (h : nodeB n t = true) : inB n.kind 1 17 = true ∧ (n.src.length : Int) = kAr (n.kind - 1).toNat := by
  rw [nodeB_split] at h
  simp only [Bool.and_eq_true, beq_iff_eq] at h
  exact ⟨h.1, h.2.2.1⟩
theorem inp_rng {x : PatchD} (hf : formedB x = true) {i : Int} (h0 : 0 ≤ i) (h1 : i < (x.nodes.length : Int)) {k : Nat} (hk : k < (nodeAt x.nodes i).src.length) : 0 ≤ inp x i k ∧ inp x i k < (x.nodes.length : Int) :=
  nodeAt_src hf h0 h1 _ (getD_mem hk)

theorem find_rising {p : Int → Bool} : ∀ {l : List Int}, Rising l → ∀ {k : Int}, k ∈ l → p k = true → (∀ j ∈ l, j < k → p j = false) → l.find? p = some k
  | [], _, k, h, _, _ => by simp at h
  | y :: ys, hr, k, hk, hp, hb => by
    have hr' := List.pairwise_cons.1 hr
    rcases List.mem_cons.1 hk with rfl | hk'
    · exact List.find?_cons_of_pos hp
    · have h1 := hr'.1 _ hk'
      rw [List.find?_cons_of_neg (by rw [hb y (List.mem_cons_self ..) h1]; simp)]
      exact find_rising hr'.2 hk' hp fun j hj hlt => hb j (List.mem_cons_of_mem _ hj) hlt
theorem twin_some {x : PatchD} {i k : Int} (hk : k ∈ need x) (hlt : k < i) (he : nodeAt x.nodes k = nodeAt x.nodes i) (hb : ∀ j ∈ need x, j < k → nodeAt x.nodes j ≠ nodeAt x.nodes i) : twinI x i = k := by
  unfold twinI
  rw [find_rising (l := need x) (ups_rising _ _) hk (by rw [decide_eq_true hlt, decide_eq_true he]; rfl) fun j hj hjk => by rw [decide_eq_false (hb j hj hjk), Bool.and_false]]
  rfl
theorem twin_none {x : PatchD} {i : Int} (hb : ∀ j ∈ need x, j < i → nodeAt x.nodes j ≠ nodeAt x.nodes i) : twinI x i = -1 := by
  unfold twinI
  rw [List.find?_eq_none.2 fun j hj => by
    simp only [Bool.and_eq_true, decide_eq_true_eq, not_and]
    exact hb j hj]
  rfl
end Go.Proofs.YtcfhcmgmkhfjjaaGreat

namespace Go.Proofs.YtcfhcmgmkhfjjaaGreat
open Go.ChangeShapes Go.WideShapes Go.ChangeAt Go.RowKit Go.Sort
set_option linter.unusedVariables false

def zeroNode : List Value := [.int .i64 0, .int .i64 0, .int .i64 0, .slice none 0 0]
theorem bdrewn (w : World) : Below w.heap.size w w.drew := ⟨rfl, rfl, rfl, Nat.le_refl _, fun _ _ => rfl⟩
theorem Box.put4 {w : World} {g : Nat} {l0 l1 l2 l3 a b c d : Value} {T : TypeId} (h : Box w g [l0, l1, l2, l3] T) :
    Box ((((w.setCell ⟨g, 0, none⟩ a).setCell ⟨g, 1, none⟩ b).setCell ⟨g, 2, none⟩ c).setCell ⟨g, 3, none⟩ d) g [a, b, c, d] T := by
  have := (((h.set 0 a).set 1 b).set 2 c).set 3 d
  simpa using this
theorem below_put4 {B : Nat} {w0 w : World} {g : Nat} (a b c d : Value) (h : Below B w0 w) (hg : B ≤ g) :
    Below B w0 ((((w.setCell ⟨g, 0, none⟩ a).setCell ⟨g, 1, none⟩ b).setCell ⟨g, 2, none⟩ c).setCell ⟨g, 3, none⟩ d) :=
  (((h.setCell (p := ⟨g, 0, none⟩) hg a).setCell (p := ⟨g, 1, none⟩) hg b).setCell (p := ⟨g, 2, none⟩) hg c).setCell (p := ⟨g, 3, none⟩) hg d
theorem OwnI.put4 {B : Nat} {w : World} {v : Value} {xs : List Int} {g : Nat} (a b c d : Value) (h : OwnI B w v xs) (hne : v.ownBlock ≠ some g) :
    OwnI B ((((w.setCell ⟨g, 0, none⟩ a).setCell ⟨g, 1, none⟩ b).setCell ⟨g, 2, none⟩ c).setCell ⟨g, 3, none⟩ d) v xs :=
  h.keep fun k hk => by
    have hkg : k ≠ g := fun e => hne (e ▸ hk)
    exact (Below.heap_setCell _ _ _ _ hkg).trans ((Below.heap_setCell _ _ _ _ hkg).trans ((Below.heap_setCell _ _ _ _ hkg).trans (Below.heap_setCell _ _ _ _ hkg)))
/-- the nodes of a patch lie one behind the other -/
def NodesAt (w : World) (b o : Nat) (x : PatchD) : Prop := ∀ j : Nat, j < x.nodes.length → PNode w b (o + j * 4) (nodeAt x.nodes (j : Int))
theorem NodesAt.below {w w' : World} {b o : Nat} {x : PatchD} (h : NodesAt w b o x) (hb : Below w.heap.size w w') : NodesAt w' b o x := fun j hj => (h j hj).below hb
theorem NodesAt.of {w : World} {p : Option Addr} {x : PatchD} (h : RdNodeS w p x.nodes) {k : Nat} (hk : k < x.nodes.length) : ∃ b o, p = some ⟨b, o, none⟩ ∧ b < w.heap.size ∧ NodesAt w b o x := by
  obtain ⟨b, o, e, hb, hc⟩ := h.pos hk
  exact ⟨b, o, e, hb, fun j hj => by rw [nodeAt_eq hj]; exact hc j hj⟩
theorem node_field1 (k a b : Int) (q : Option Addr) (n c : Nat) (w : World) : (Instr.field 55 (.agg #[.int .i64 k, .int .i64 a, .int .i64 b, .slice q n c]) 1).run Tryz.prog w = .ok (.int .i64 a) w := by kernel_rfl
theorem node_field0 (k a b : Int) (q : Option Addr) (n c : Nat) (w : World) : (Instr.field 55 (.agg #[.int .i64 k, .int .i64 a, .int .i64 b, .slice q n c]) 0).run Tryz.prog w = .ok (.int .i64 k) w := by kernel_rfl
theorem isConst_x {k a b : Int} {q : Option Addr} {n c : Nat} (w : World) :
    Calls Tryz.prog 90 #[.agg #[.int .i64 k, .int .i64 a, .int .i64 b, .slice q n c]] w fun e w' => e = .returned (.bool (k == 2)) ∧ Below w.heap.size w w' := by
  have hB0 : Below w.heap.size w (w.alloc (.cells #[.int .i64 k, .int .i64 a, .int .i64 b, .slice q n c] 55)) := (Below.refl _ _).alloc (Nat.le_refl _) _
  go_enter Tryz.func90, Tryz.ntmps90
  go_wp2_with fail
  go_ret
  exact ⟨rfl, hB0⟩
theorem isConstOf_x {k a b : Int} {q : Option Addr} {n c : Nat} (y : Int) (w : World) :
    Calls Tryz.prog 94 #[.agg #[.int .i64 k, .int .i64 a, .int .i64 b, .slice q n c], .int .i64 y] w fun e w' => e = .returned (.bool (k == 2 && a == y)) ∧ Below w.heap.size w w' := by
  obtain ⟨E0, hE0⟩ : ∃ E, E = w.alloc (.cells #[.int .i64 k, .int .i64 a, .int .i64 b, .slice q n c] 55) := ⟨_, rfl⟩
  have hB0 : Below w.heap.size w E0 := by rw [hE0]; exact (Below.refl _ _).alloc (Nat.le_refl _) _
  have bx : Box E0 w.heap.size [.int .i64 k, .int .i64 a, .int .i64 b, .slice q n c] 55 := by rw [hE0]; exact Box.newAt w _ _ rfl
  have z0 := bx.cell 0 rfl
  have z1 := bx.cell 1 rfl
  have z2 := bx.cell 2 rfl
  have z3 := bx.cell 3 rfl
  have HE := Lib.hid hE0
  clear hE0
  cases hk : (k == 2)
  all_goals
    have IC := Lib.hid (isConst_x (k := k) (a := a) (b := b) (q := q) (n := n) (c := c) E0)
    rw [hk] at IC
    have HK := Lib.hid hk
    clear hk
    go_enter Tryz.func94, Tryz.ntmps94
    go_upto_region 1 with fail
    rw [← HE.out]
    go_wp2_with fail
    refine IC.out.mono ?_
    rintro e W1 ⟨rfl, hb1⟩
    have b1 := bx.below hb1
    clear z0 z1 z2 z3
    have z1 := b1.cell 1 rfl
    go_wp2_with fail
    go_ret
    exact ⟨by simp, hB0.trans (hb1.mono hB0.size)⟩
theorem constOf_x (y : Int) (w : World) :
    Calls Tryz.prog 52 #[.int .i64 y] w fun e w' => ∃ u, e = .returned (.agg #[.int .i64 2, .int .i64 y, .int .i64 0, u]) ∧ OwnI w.heap.size w' u [] ∧ Below w.heap.size w w' := by
  obtain ⟨E, hE⟩ : ∃ E, E = (w.alloc (.cells #[.int .i64 2, .int .i64 y, .int .i64 0, .slice (some ⟨w.heap.size + 1, 0, none⟩) 0 0] 55)).alloc (.cells #[] 2) := ⟨_, rfl⟩
  have hB : Below w.heap.size w E := by rw [hE]; exact ((Below.refl _ _).alloc (Nat.le_refl _) _).alloc (by simp) _
  have R4 : Box E w.heap.size [.int .i64 2, .int .i64 y, .int .i64 0, .slice (some ⟨w.heap.size + 1, 0, none⟩) 0 0] 55 := by rw [hE]; exact (Box.newAt w _ _ rfl).alloc _
  have ho : OwnI w.heap.size E (.slice (some ⟨w.heap.size + 1, 0, none⟩) 0 0) [] := by
    have := OwnI.lit (B := w.heap.size) (w.alloc (.cells #[.int .i64 2, .int .i64 y, .int .i64 0, .slice (some ⟨w.heap.size + 1, 0, none⟩) 0 0] 55)) [] (by simp) (by simp [maxLen])
    rw [hE]
    simpa using this
  have q0 := R4.cell 0 rfl
  have q1 := R4.cell 1 rfl
  have q2 := R4.cell 2 rfl
  have q3 := R4.cell 3 rfl
  have HE := Lib.hid hE
  have HO := Lib.hid ho
  clear hE ho R4
  go_enter Tryz.func52, Tryz.ntmps52
  go_wp2_with fail
  rw [← HE.out]
  refine bodyPost_ret (v := .agg #[.int .i64 2, .int .i64 y, .int .i64 0, .slice (some ⟨w.heap.size + 1, 0, none⟩) 0 0]) (by simp [results, Tryz.results52, go_sem, *]) rfl ?_
  exact ⟨_, rfl, HO.out, hB⟩
set_option maxRecDepth 100000 in
theorem from_x {x : PatchD} {p1 p3 : Option Addr} {c1 c2 c3 b o : Nat} {i j k : Nat} {q : Option Addr} {c : Nat} (w : World) (NS : NodesAt w b o x) (hi : i < x.nodes.length)
    (hk : k < (nodeAt x.nodes (i : Int)).src.length) (hj : inp x (i : Int) k = (j : Int)) (hjn : j < x.nodes.length) (hq : w.cell? ⟨b, o + j * 4 + 3, none⟩ = some (.slice q (nodeAt x.nodes (j : Int)).src.length c)) :
    Calls Tryz.prog 91 #[.agg #[.int .i64 x.inputs, .slice p1 x.tables.length c1, .slice (some ⟨b, o, none⟩) x.nodes.length c2, .slice p3 x.outputs.length c3], .int .i64 (i : Int), .int .i64 (k : Int)] w
      fun e w' => e = .returned (.agg #[.int .i64 (nodeAt x.nodes (j : Int)).kind, .int .i64 (nodeAt x.nodes (j : Int)).a, .int .i64 (nodeAt x.nodes (j : Int)).b, .slice q (nodeAt x.nodes (j : Int)).src.length c]) ∧ Below w.heap.size w w' := by
  obtain ⟨g, hg⟩ : ∃ g, g = w.heap.size := ⟨_, rfl⟩
  obtain ⟨E0, hE0⟩ : ∃ E, E = (w.alloc (.cells #[.int .i64 x.inputs, .slice p1 x.tables.length c1, .slice (some ⟨b, o, none⟩) x.nodes.length c2, .slice p3 x.outputs.length c3] 28)).alloc (.cells #[.int .i64 0, .int .i64 0, .int .i64 0, .slice none 0 0] 55) := ⟨_, rfl⟩
  have hB0 : Below w.heap.size w E0 := by rw [hE0]; exact ((Below.refl _ _).alloc (Nat.le_refl _) _).alloc (by simp) _
  have bx : Box E0 g [.int .i64 x.inputs, .slice p1 x.tables.length c1, .slice (some ⟨b, o, none⟩) x.nodes.length c2, .slice p3 x.outputs.length c3] 28 := by rw [hE0, hg]; exact (Box.newAt w _ _ rfl).alloc _
  have br : Box E0 (g + 1) zeroNode 55 := by rw [hE0, hg]; exact Box.newAt (w.alloc _) _ _ (by simp)
  have hqb := World.block_lt_of_cell? w _ hq
  have hq0 := (hB0.cell (p := ⟨b, o + j * 4 + 3, none⟩) hqb).trans hq
  have NE := NS.below hB0
  obtain ⟨c0', c1', c2', -⟩ := NE j hjn
  obtain ⟨-, -, -, pi, ci, d3, hr⟩ := NE i hi
  obtain ⟨b2, o2, rfl, hb2, hc⟩ := hr.at0 (by omega)
  have hs := hc k hk
  have hs' : E0.cell? ⟨b2, o2 + k, none⟩ = some (.int .i64 (j : Int)) := by rw [hs]; exact congrArg (fun z => some (Value.int .i64 z)) hj
  have HW := Lib.hid (below_put4 (g := g + 1) (.int .i64 (nodeAt x.nodes (j : Int)).kind) (.int .i64 (nodeAt x.nodes (j : Int)).a) (.int .i64 (nodeAt x.nodes (j : Int)).b) (.slice q (nodeAt x.nodes (j : Int)).src.length c) hB0 (by omega))
  clear NS NE hq hs hc hr hj hqb
  generalize (nodeAt x.nodes (j : Int)).kind = K at *
  generalize (nodeAt x.nodes (j : Int)).a = A at *
  generalize (nodeAt x.nodes (j : Int)).b = B at *
  generalize (nodeAt x.nodes (j : Int)).src.length = N at *
  generalize (nodeAt x.nodes (i : Int)).src.length = M at *
  generalize x.nodes.length = L at *
  have z2 := bx.cell 2 rfl
  have k0 := br.frozen 0
  have k1 := br.frozen 1
  have k2 := br.frozen 2
  have k3 := br.frozen 3
  have t0 := br.cell 0 rfl
  have t1 := br.cell 1 rfl
  have t2 := br.cell 2 rfl
  have t3 := br.cell 3 rfl
  have R4 := br.put4 (a := .int .i64 K) (b := .int .i64 A) (c := .int .i64 B) (d := .slice q N c)
  have q0 := R4.cell 0 rfl
  have q1 := R4.cell 1 rfl
  have q2 := R4.cell 2 rfl
  have q3 := R4.cell 3 rfl
  have HE := Lib.hid hE0
  have HG := Lib.hid hg
  clear hE0 hg R4
  go_enter Tryz.func91, Tryz.ntmps91
  go_upto_region 1 with fail
  rw [← HE.out, ← HG.out]
  refine wp_region_still_tail 13 (by kernel_rfl) (by kernel_rfl) ?_
  simp only [List.take_succ_cons, List.take_zero, List.drop_succ_cons, List.drop_zero]
  change wpStill _ _ (World.drew _) _ _ _
  repeat (first | still_step | (refine wpStill_step (fun K hK => ?_); go_simp; refine ⟨_, (by fail), hK _ ?_⟩; clear hK K))
  refine wpStill_nil ?_
  change wpList _ _ _ _ _ (World.drew _)
  go_wp2_with fail
  refine bodyPost_ret (v := .agg #[.int .i64 K, .int .i64 A, .int .i64 B, .slice q N c]) (by simp [results, Tryz.results91, go_sem, *]) rfl ?_
  exact ⟨rfl, HW.out.os, HW.out.tape, HW.out.output, HW.out.size, HW.out.block⟩
end Go.Proofs.YtcfhcmgmkhfjjaaGreat

namespace Go.Proofs.YtcfhcmgmkhfjjaaGreat
open Go.ChangeShapes Go.WideShapes Go.ChangeAt Go.RowKit Go.Sort
set_option linter.unusedVariables false

theorem from_at {x : PatchD} {p1 p3 : Option Addr} {c1 c2 c3 b o : Nat} {i k : Nat} (z : Int) (w : World) (NS : NodesAt w b o x) (hf : formedB x = true) (hi : i < x.nodes.length) (hk : k < (nodeAt x.nodes (i : Int)).src.length) (hz : z = (k : Int)) :
    ∃ q c, RdI w q (frm x (i : Int) k).src ∧ ∀ W, Below w.heap.size w W → Calls Tryz.prog 91 #[(.agg #[.int .i64 x.inputs, .slice p1 x.tables.length c1, .slice (some ⟨b, o, none⟩) x.nodes.length c2, .slice p3 x.outputs.length c3]), .int .i64 (i : Int), .int .i64 z] W
      fun e w' => e = .returned (.agg #[.int .i64 (frm x (i : Int) k).kind, .int .i64 (frm x (i : Int) k).a, .int .i64 (frm x (i : Int) k).b, .slice q (frm x (i : Int) k).src.length c]) ∧ Below W.heap.size W w' := by
  subst hz
  obtain ⟨h0, h1⟩ := inp_rng hf (i := (i : Int)) (by omega) (by omega) hk
  obtain ⟨j, hj⟩ := Int.eq_ofNat_of_zero_le h0
  have hjn : j < x.nodes.length := by omega
  have e : frm x (i : Int) k = nodeAt x.nodes (j : Int) := by unfold frm; rw [hj]
  rw [e]
  obtain ⟨-, -, -, q, c, hq, hr⟩ := NS j hjn
  refine ⟨q, c, hr, fun W hW => ?_⟩
  exact from_x W (NS.below hW) hi hk hj hjn ((hW.cell (p := ⟨b, o + j * 4 + 3, none⟩) (World.block_lt_of_cell? w _ hq)).trans hq)
set_option maxHeartbeats 4000000 in
set_option maxRecDepth 100000 in
theorem isZeroNode_x {x : PatchD} {p1 p3 : Option Addr} {c1 c2 c3 b o : Nat} {i : Nat} (w : World) (NS : NodesAt w b o x) (hf : formedB x = true) (hi : i < x.nodes.length) :
    Calls Tryz.prog 51 #[(.agg #[.int .i64 x.inputs, .slice p1 x.tables.length c1, .slice (some ⟨b, o, none⟩) x.nodes.length c2, .slice p3 x.outputs.length c3]), .int .i64 (i : Int)] w fun e w' => e = .returned (.bool (zeroB x (i : Int))) ∧ Below w.heap.size w w' := by
  have hn := NS i hi
  have hok := nodeAt_ok hf (i := (i : Int)) (by omega) (by omega)
  obtain ⟨hk, har⟩ := nodeB_ar hok
  have F0 := fun h => from_at (p1 := p1) (p3 := p3) (c1 := c1) (c2 := c2) (c3 := c3) (k := 0) 0 w NS hf hi h rfl
  have F1 := fun h => from_at (p1 := p1) (p3 := p3) (c1 := c1) (c2 := c2) (c3 := c3) (k := 1) 1 w NS hf hi h rfl
  have HZ : zeroB x (i : Int) = zeroK (nodeAt x.nodes (i : Int)).kind (nodeAt x.nodes (i : Int)).a (inp x (i : Int) 0) (inp x (i : Int) 1) (frm x (i : Int) 0) := rfl
  rw [HZ]
  clear HZ
  obtain ⟨y0, y1, y2, q, d, y3, hr⟩ := hn
  have hlen := hr.len
  unfold maxLen at hlen
  have SC : Hid (1 ≤ (nodeAt x.nodes (i : Int)).src.length → ∃ b2 o2, q = some ⟨b2, o2, none⟩ ∧ b2 < w.heap.size ∧ w.cell? ⟨b2, o2, none⟩ = some (.int .i64 (inp x (i : Int) 0)) ∧ (1 < (nodeAt x.nodes (i : Int)).src.length → w.cell? ⟨b2, o2 + 1, none⟩ = some (.int .i64 (inp x (i : Int) 1))) ∧ (2 < (nodeAt x.nodes (i : Int)).src.length → w.cell? ⟨b2, o2 + 2, none⟩ = some (.int .i64 (inp x (i : Int) 2)))) := fun h => by
    obtain ⟨b2, o2, e, hb, hc⟩ := hr.at0 h
    exact ⟨b2, o2, e, hb, hc 0 (by omega), fun h1 => hc 1 h1, fun h2 => hc 2 h2⟩
  have hlb := World.block_lt_of_cell? w _ y0
  obtain ⟨g, hg⟩ : ∃ g, g = w.heap.size := ⟨_, rfl⟩
  obtain ⟨E1, hE1⟩ : ∃ E, E = w.alloc (.cells #[.int .i64 x.inputs, .slice p1 x.tables.length c1, .slice (some ⟨b, o, none⟩) x.nodes.length c2, .slice p3 x.outputs.length c3] 28) := ⟨_, rfl⟩
  have hB1 : Below w.heap.size w E1 := by rw [hE1]; exact (Below.refl _ _).alloc (Nat.le_refl _) _
  have x0 := (hB1.cell (p := ⟨b, o + i * 4, none⟩) hlb).trans y0
  have x1 := (hB1.cell (p := ⟨b, o + i * 4 + 1, none⟩) hlb).trans y1
  have x2 := (hB1.cell (p := ⟨b, o + i * 4 + 2, none⟩) hlb).trans y2
  have x3 := (hB1.cell (p := ⟨b, o + i * 4 + 3, none⟩) hlb).trans y3
  have bx1 : Box E1 g [.int .i64 x.inputs, .slice p1 x.tables.length c1, .slice (some ⟨b, o, none⟩) x.nodes.length c2, .slice p3 x.outputs.length c3] 28 := by rw [hE1, hg]; exact Box.newAt w _ _ rfl
  have u2 := bx1.cell 2 rfl
  clear hr y0 y1 y2 y3 hok
  generalize hK : (nodeAt x.nodes (i : Int)).kind = K at *
  generalize (nodeAt x.nodes (i : Int)).a = A at *
  generalize (nodeAt x.nodes (i : Int)).b = B at *
  generalize hN : (nodeAt x.nodes (i : Int)).src.length = N at *
  clear hK hN
  obtain ⟨E, hE⟩ : ∃ E, E = E1.alloc (.cells #[.int .i64 K, .int .i64 A, .int .i64 B, .slice q N d] 55) := ⟨_, rfl⟩
  have hBE : Below E1.heap.size E1 E := by rw [hE]; exact (Below.refl _ _).alloc (Nat.le_refl _) _
  have hB0 := hB1.trans (hBE.mono hB1.size)
  have bx : Box E g [.int .i64 x.inputs, .slice p1 x.tables.length c1, .slice (some ⟨b, o, none⟩) x.nodes.length c2, .slice p3 x.outputs.length c3] 28 := bx1.below hBE
  have bn : Box E (g + 1) [.int .i64 K, .int .i64 A, .int .i64 B, .slice q N d] 55 := by rw [hE]; exact Box.newAt E1 _ _ (by rw [hE1, hg]; simp)
  have v0 := bx.cell 0 rfl
  have v1 := bx.cell 1 rfl
  have v2 := bx.cell 2 rfl
  have v3 := bx.cell 3 rfl
  have z0 := bn.cell 0 rfl
  have z1 := bn.cell 1 rfl
  have z2 := bn.cell 2 rfl
  have z3 := bn.cell 3 rfl
  have G0 : Hid (0 < N → ∃ q c, ∀ W, Below E.heap.size E W → Calls Tryz.prog 91 #[(.agg #[.int .i64 x.inputs, .slice p1 x.tables.length c1, .slice (some ⟨b, o, none⟩) x.nodes.length c2, .slice p3 x.outputs.length c3]), .int .i64 (i : Int), .int .i64 0] W
      fun e w' => e = .returned (.agg #[.int .i64 (frm x (i : Int) 0).kind, .int .i64 (frm x (i : Int) 0).a, .int .i64 (frm x (i : Int) 0).b, .slice q (frm x (i : Int) 0).src.length c]) ∧ Below W.heap.size W w') := fun h => by
    obtain ⟨q, c, -, h1⟩ := F0 h
    exact ⟨q, c, fun W hW => h1 W (hB0.trans (hW.mono hB0.size))⟩
  have G1 : Hid (1 < N → ∃ q c, ∀ W, Below E.heap.size E W → Calls Tryz.prog 91 #[(.agg #[.int .i64 x.inputs, .slice p1 x.tables.length c1, .slice (some ⟨b, o, none⟩) x.nodes.length c2, .slice p3 x.outputs.length c3]), .int .i64 (i : Int), .int .i64 1] W
      fun e w' => e = .returned (.agg #[.int .i64 (frm x (i : Int) 1).kind, .int .i64 (frm x (i : Int) 1).a, .int .i64 (frm x (i : Int) 1).b, .slice q (frm x (i : Int) 1).src.length c]) ∧ Below W.heap.size W w') := fun h => by
    obtain ⟨q, c, -, h1⟩ := F1 h
    exact ⟨q, c, fun W hW => h1 W (hB0.trans (hW.mono hB0.size))⟩
  have HE := Lib.hid hE
  have HE1 := Lib.hid hE1
  have HG := Lib.hid hg
  clear hE hE1 hg F0 F1 hBE bx1
  generalize inp x (i : Int) 0 = s0 at *
  generalize inp x (i : Int) 1 = s1 at *
  generalize inp x (i : Int) 2 = s2 at *
  generalize frm x (i : Int) 0 = f0 at *
  generalize frm x (i : Int) 1 = f1 at *
  rcases kinds_of hk with rfl | rfl | rfl | rfl | rfl | rfl | rfl | rfl | rfl | rfl | rfl | rfl | rfl | rfl | rfl | rfl | rfl
  · have hN : N = 0 := by have : kAr ((1 : Int) - 1).toNat = 0 := rfl; omega
    clear har
    rw [show zeroK 1 A s0 s1 f0 = false by simp [zeroK]]
    clear hk hN SC G0 G1
    go_enter Tryz.func51, Tryz.ntmps51
    go_upto_region 1 with fail
    rw [← HE1.out, ← HG.out]
    go_upto_region 2 with fail
    rw [← HE.out, show E1.heap.size = g + 1 by rw [HE1.out, HG.out]; simp]
    go_wp2_with fail
    go_ret
    exact ⟨rfl, hB0⟩
  · have hN : N = 0 := by have : kAr ((2 : Int) - 1).toNat = 0 := rfl; omega
    clear har
    rw [show zeroK 2 A s0 s1 f0 = false by simp [zeroK]]
    clear hk hN SC G0 G1
    go_enter Tryz.func51, Tryz.ntmps51
    go_upto_region 1 with fail
    rw [← HE1.out, ← HG.out]
    go_upto_region 2 with fail
    rw [← HE.out, show E1.heap.size = g + 1 by rw [HE1.out, HG.out]; simp]
    go_wp2_with fail
    go_ret
    exact ⟨rfl, hB0⟩
  · have hN : N = 2 := by have : kAr ((3 : Int) - 1).toNat = 2 := rfl; omega
    clear har
    rw [show zeroK 3 A s0 s1 f0 = false by simp [zeroK]]
    clear hk hN SC G0 G1
    go_enter Tryz.func51, Tryz.ntmps51
    go_upto_region 1 with fail
    rw [← HE1.out, ← HG.out]
    go_upto_region 2 with fail
    rw [← HE.out, show E1.heap.size = g + 1 by rw [HE1.out, HG.out]; simp]
    go_wp2_with fail
    go_ret
    exact ⟨rfl, hB0⟩
  · have hN : N = 2 := by have : kAr ((4 : Int) - 1).toNat = 2 := rfl; omega
    clear har
    rw [show zeroK 4 A s0 s1 f0 = (s0 == s1) by simp [zeroK]]
    obtain ⟨b2, o2, rfl, hb2, S0, S1, S2⟩ := SC.out (by omega)
    have r0 := (hB0.cell (p := ⟨b2, o2, none⟩) hb2).trans (S0)
    have r1 := (hB0.cell (p := ⟨b2, o2 + 1, none⟩) hb2).trans (S1 (by omega))
    clear S0 S1 S2
    subst hN
    clear hk SC G0 G1
    go_enter Tryz.func51, Tryz.ntmps51
    go_upto_region 1 with fail
    rw [← HE1.out, ← HG.out]
    go_upto_region 2 with fail
    rw [← HE.out, show E1.heap.size = g + 1 by rw [HE1.out, HG.out]; simp]
    go_wp2_with fail
    go_quiet (fail)
    go_wp2_with fail
    go_ret
    exact ⟨rfl, below_drewN hB0 _⟩
  · have hN : N = 1 := by have : kAr ((5 : Int) - 1).toNat = 1 := rfl; omega
    clear har
    rw [show zeroK 5 A s0 s1 f0 = (A == 0) by simp [zeroK]]
    clear hk hN SC G0 G1
    go_enter Tryz.func51, Tryz.ntmps51
    go_upto_region 1 with fail
    rw [← HE1.out, ← HG.out]
    go_upto_region 2 with fail
    rw [← HE.out, show E1.heap.size = g + 1 by rw [HE1.out, HG.out]; simp]
    go_wp2_with fail
    go_ret
    exact ⟨rfl, hB0⟩
  · have hN : N = 1 := by have : kAr ((6 : Int) - 1).toNat = 1 := rfl; omega
    clear har
    rw [show zeroK 6 A s0 s1 f0 = isCO f0 0 by simp [zeroK]]
    obtain ⟨q0, d0, C0⟩ := G0.out (by omega)
    have C1 := Lib.hid C0
    clear hk hN SC G0 G1 C0
    go_enter Tryz.func51, Tryz.ntmps51
    go_upto_region 1 with fail
    rw [← HE1.out, ← HG.out]
    go_upto_region 2 with fail
    rw [← HE.out, show E1.heap.size = g + 1 by rw [HE1.out, HG.out]; simp]
    go_wp2_with fail
    refine (C1.out E (Below.refl _ _)).mono ?_
    rintro e W1 ⟨rfl, hb1⟩
    have hw1 := hB0.trans (hb1.mono hB0.size)
    go_wp2_with (go_at_call 94; refine (isConstOf_x 0 _).mono ?_; rintro e W2 ⟨rfl, hb2⟩)
    go_ret
    exact ⟨rfl, hw1.trans (hb2.mono hw1.size)⟩
  · have hN : N = 1 := by have : kAr ((7 : Int) - 1).toNat = 1 := rfl; omega
    clear har
    rw [show zeroK 7 A s0 s1 f0 = isCO f0 0 by simp [zeroK]]
    obtain ⟨q0, d0, C0⟩ := G0.out (by omega)
    have C1 := Lib.hid C0
    clear hk hN SC G0 G1 C0
    go_enter Tryz.func51, Tryz.ntmps51
    go_upto_region 1 with fail
    rw [← HE1.out, ← HG.out]
    go_upto_region 2 with fail
    rw [← HE.out, show E1.heap.size = g + 1 by rw [HE1.out, HG.out]; simp]
    go_wp2_with fail
    refine (C1.out E (Below.refl _ _)).mono ?_
    rintro e W1 ⟨rfl, hb1⟩
    have hw1 := hB0.trans (hb1.mono hB0.size)
    go_wp2_with (go_at_call 94; refine (isConstOf_x 0 _).mono ?_; rintro e W2 ⟨rfl, hb2⟩)
    go_ret
    exact ⟨rfl, hw1.trans (hb2.mono hw1.size)⟩
  · have hN : N = 1 := by have : kAr ((8 : Int) - 1).toNat = 1 := rfl; omega
    clear har
    rw [show zeroK 8 A s0 s1 f0 = isCO f0 0 by simp [zeroK]]
    obtain ⟨q0, d0, C0⟩ := G0.out (by omega)
    have C1 := Lib.hid C0
    clear hk hN SC G0 G1 C0
    go_enter Tryz.func51, Tryz.ntmps51
    go_upto_region 1 with fail
    rw [← HE1.out, ← HG.out]
    go_upto_region 2 with fail
    rw [← HE.out, show E1.heap.size = g + 1 by rw [HE1.out, HG.out]; simp]
    go_wp2_with fail
    refine (C1.out E (Below.refl _ _)).mono ?_
    rintro e W1 ⟨rfl, hb1⟩
    have hw1 := hB0.trans (hb1.mono hB0.size)
    go_wp2_with (go_at_call 94; refine (isConstOf_x 0 _).mono ?_; rintro e W2 ⟨rfl, hb2⟩)
    go_ret
    exact ⟨rfl, hw1.trans (hb2.mono hw1.size)⟩
  · have hN : N = 2 := by have : kAr ((9 : Int) - 1).toNat = 2 := rfl; omega
    clear har
    rw [show zeroK 9 A s0 s1 f0 = false by simp [zeroK]]
    clear hk hN SC G0 G1
    go_enter Tryz.func51, Tryz.ntmps51
    go_upto_region 1 with fail
    rw [← HE1.out, ← HG.out]
    go_upto_region 2 with fail
    rw [← HE.out, show E1.heap.size = g + 1 by rw [HE1.out, HG.out]; simp]
    go_wp2_with fail
    go_ret
    exact ⟨rfl, hB0⟩
  · have hN : N = 1 := by have : kAr ((10 : Int) - 1).toNat = 1 := rfl; omega
    clear har
    rw [show zeroK 10 A s0 s1 f0 = false by simp [zeroK]]
    clear hk hN SC G0 G1
    go_enter Tryz.func51, Tryz.ntmps51
    go_upto_region 1 with fail
    rw [← HE1.out, ← HG.out]
    go_upto_region 2 with fail
    rw [← HE.out, show E1.heap.size = g + 1 by rw [HE1.out, HG.out]; simp]
    go_wp2_with fail
    go_ret
    exact ⟨rfl, hB0⟩
  · have hN : N = 1 := by have : kAr ((11 : Int) - 1).toNat = 1 := rfl; omega
    clear har
    rw [show zeroK 11 A s0 s1 f0 = (A == 0) by simp [zeroK]]
    clear hk hN SC G0 G1
    go_enter Tryz.func51, Tryz.ntmps51
    go_upto_region 1 with fail
    rw [← HE1.out, ← HG.out]
    go_upto_region 2 with fail
    rw [← HE.out, show E1.heap.size = g + 1 by rw [HE1.out, HG.out]; simp]
    go_wp2_with fail
    go_ret
    exact ⟨rfl, hB0⟩
  · have hN : N = 1 := by have : kAr ((12 : Int) - 1).toNat = 1 := rfl; omega
    clear har
    rw [show zeroK 12 A s0 s1 f0 = false by simp [zeroK]]
    clear hk hN SC G0 G1
    go_enter Tryz.func51, Tryz.ntmps51
    go_upto_region 1 with fail
    rw [← HE1.out, ← HG.out]
    go_upto_region 2 with fail
    rw [← HE.out, show E1.heap.size = g + 1 by rw [HE1.out, HG.out]; simp]
    go_wp2_with fail
    go_ret
    exact ⟨rfl, hB0⟩
  · have hN : N = 1 := by have : kAr ((13 : Int) - 1).toNat = 1 := rfl; omega
    clear har
    rw [show zeroK 13 A s0 s1 f0 = false by simp [zeroK]]
    clear hk hN SC G0 G1
    go_enter Tryz.func51, Tryz.ntmps51
    go_upto_region 1 with fail
    rw [← HE1.out, ← HG.out]
    go_upto_region 2 with fail
    rw [← HE.out, show E1.heap.size = g + 1 by rw [HE1.out, HG.out]; simp]
    go_wp2_with fail
    go_ret
    exact ⟨rfl, hB0⟩
  · have hN : N = 0 := by have : kAr ((14 : Int) - 1).toNat = 0 := rfl; omega
    clear har
    rw [show zeroK 14 A s0 s1 f0 = false by simp [zeroK]]
    clear hk hN SC G0 G1
    go_enter Tryz.func51, Tryz.ntmps51
    go_upto_region 1 with fail
    rw [← HE1.out, ← HG.out]
    go_upto_region 2 with fail
    rw [← HE.out, show E1.heap.size = g + 1 by rw [HE1.out, HG.out]; simp]
    go_wp2_with fail
    go_ret
    exact ⟨rfl, hB0⟩
  · have hN : N = 3 := by have : kAr ((15 : Int) - 1).toNat = 3 := rfl; omega
    clear har
    rw [show zeroK 15 A s0 s1 f0 = false by simp [zeroK]]
    clear hk hN SC G0 G1
    go_enter Tryz.func51, Tryz.ntmps51
    go_upto_region 1 with fail
    rw [← HE1.out, ← HG.out]
    go_upto_region 2 with fail
    rw [← HE.out, show E1.heap.size = g + 1 by rw [HE1.out, HG.out]; simp]
    go_wp2_with fail
    go_ret
    exact ⟨rfl, hB0⟩
  · have hN : N = 2 := by have : kAr ((16 : Int) - 1).toNat = 2 := rfl; omega
    clear har
    rw [show zeroK 16 A s0 s1 f0 = false by simp [zeroK]]
    clear hk hN SC G0 G1
    go_enter Tryz.func51, Tryz.ntmps51
    go_upto_region 1 with fail
    rw [← HE1.out, ← HG.out]
    go_upto_region 2 with fail
    rw [← HE.out, show E1.heap.size = g + 1 by rw [HE1.out, HG.out]; simp]
    go_wp2_with fail
    go_ret
    exact ⟨rfl, hB0⟩
  · have hN : N = 1 := by have : kAr ((17 : Int) - 1).toNat = 1 := rfl; omega
    clear har
    rw [show zeroK 17 A s0 s1 f0 = isCO f0 0 by simp [zeroK]]
    obtain ⟨q0, d0, C0⟩ := G0.out (by omega)
    have C1 := Lib.hid C0
    clear hk hN SC G0 G1 C0
    go_enter Tryz.func51, Tryz.ntmps51
    go_upto_region 1 with fail
    rw [← HE1.out, ← HG.out]
    go_upto_region 2 with fail
    rw [← HE.out, show E1.heap.size = g + 1 by rw [HE1.out, HG.out]; simp]
    go_wp2_with fail
    refine (C1.out E (Below.refl _ _)).mono ?_
    rintro e W1 ⟨rfl, hb1⟩
    have hw1 := hB0.trans (hb1.mono hB0.size)
    go_wp2_with (go_at_call 94; refine (isConstOf_x 0 _).mono ?_; rintro e W2 ⟨rfl, hb2⟩)
    go_ret
    exact ⟨rfl, hw1.trans (hb2.mono hw1.size)⟩
set_option maxHeartbeats 8000000 in
set_option maxRecDepth 100000 in
theorem replacement_x {x : PatchD} {p1 p3 : Option Addr} {c1 c2 c3 b o : Nat} {i : Nat} (w : World) (NS : NodesAt w b o x) (hf : formedB x = true) (hi : i < x.nodes.length) :
    Calls Tryz.prog 53 #[(.agg #[.int .i64 x.inputs, .slice p1 x.tables.length c1, .slice (some ⟨b, o, none⟩) x.nodes.length c2, .slice p3 x.outputs.length c3]), .int .i64 (i : Int)] w fun e w' => e = .returned (.int .i64 (sameI x (i : Int))) ∧ Below w.heap.size w w' := by
  have hn := NS i hi
  have hok := nodeAt_ok hf (i := (i : Int)) (by omega) (by omega)
  obtain ⟨hk, har⟩ := nodeB_ar hok
  have F0 := fun h => from_at (p1 := p1) (p3 := p3) (c1 := c1) (c2 := c2) (c3 := c3) (k := 0) 0 w NS hf hi h rfl
  have F1 := fun h => from_at (p1 := p1) (p3 := p3) (c1 := c1) (c2 := c2) (c3 := c3) (k := 1) 1 w NS hf hi h rfl
  have HZ : sameI x (i : Int) = sameK (nodeAt x.nodes (i : Int)).kind (nodeAt x.nodes (i : Int)).a (inp x (i : Int) 0) (inp x (i : Int) 1) (inp x (i : Int) 2) (frm x (i : Int) 0) (frm x (i : Int) 1) := rfl
  rw [HZ]
  clear HZ
  obtain ⟨y0, y1, y2, q, d, y3, hr⟩ := hn
  have hlen := hr.len
  unfold maxLen at hlen
  have SC : Hid (1 ≤ (nodeAt x.nodes (i : Int)).src.length → ∃ b2 o2, q = some ⟨b2, o2, none⟩ ∧ b2 < w.heap.size ∧ w.cell? ⟨b2, o2, none⟩ = some (.int .i64 (inp x (i : Int) 0)) ∧ (1 < (nodeAt x.nodes (i : Int)).src.length → w.cell? ⟨b2, o2 + 1, none⟩ = some (.int .i64 (inp x (i : Int) 1))) ∧ (2 < (nodeAt x.nodes (i : Int)).src.length → w.cell? ⟨b2, o2 + 2, none⟩ = some (.int .i64 (inp x (i : Int) 2)))) := fun h => by
    obtain ⟨b2, o2, e, hb, hc⟩ := hr.at0 h
    exact ⟨b2, o2, e, hb, hc 0 (by omega), fun h1 => hc 1 h1, fun h2 => hc 2 h2⟩
  have hlb := World.block_lt_of_cell? w _ y0
  obtain ⟨g, hg⟩ : ∃ g, g = w.heap.size := ⟨_, rfl⟩
  obtain ⟨E1, hE1⟩ : ∃ E, E = w.alloc (.cells #[.int .i64 x.inputs, .slice p1 x.tables.length c1, .slice (some ⟨b, o, none⟩) x.nodes.length c2, .slice p3 x.outputs.length c3] 28) := ⟨_, rfl⟩
  have hB1 : Below w.heap.size w E1 := by rw [hE1]; exact (Below.refl _ _).alloc (Nat.le_refl _) _
  have x0 := (hB1.cell (p := ⟨b, o + i * 4, none⟩) hlb).trans y0
  have x1 := (hB1.cell (p := ⟨b, o + i * 4 + 1, none⟩) hlb).trans y1
  have x2 := (hB1.cell (p := ⟨b, o + i * 4 + 2, none⟩) hlb).trans y2
  have x3 := (hB1.cell (p := ⟨b, o + i * 4 + 3, none⟩) hlb).trans y3
  have bx1 : Box E1 g [.int .i64 x.inputs, .slice p1 x.tables.length c1, .slice (some ⟨b, o, none⟩) x.nodes.length c2, .slice p3 x.outputs.length c3] 28 := by rw [hE1, hg]; exact Box.newAt w _ _ rfl
  have u2 := bx1.cell 2 rfl
  clear hr y0 y1 y2 y3 hok
  generalize hK : (nodeAt x.nodes (i : Int)).kind = K at *
  generalize (nodeAt x.nodes (i : Int)).a = A at *
  generalize (nodeAt x.nodes (i : Int)).b = B at *
  generalize hN : (nodeAt x.nodes (i : Int)).src.length = N at *
  clear hK hN
  obtain ⟨E, hE⟩ : ∃ E, E = E1.alloc (.cells #[.int .i64 K, .int .i64 A, .int .i64 B, .slice q N d] 55) := ⟨_, rfl⟩
  have hBE : Below E1.heap.size E1 E := by rw [hE]; exact (Below.refl _ _).alloc (Nat.le_refl _) _
  have hB0 := hB1.trans (hBE.mono hB1.size)
  have bx : Box E g [.int .i64 x.inputs, .slice p1 x.tables.length c1, .slice (some ⟨b, o, none⟩) x.nodes.length c2, .slice p3 x.outputs.length c3] 28 := bx1.below hBE
  have bn : Box E (g + 1) [.int .i64 K, .int .i64 A, .int .i64 B, .slice q N d] 55 := by rw [hE]; exact Box.newAt E1 _ _ (by rw [hE1, hg]; simp)
  have v0 := bx.cell 0 rfl
  have v1 := bx.cell 1 rfl
  have v2 := bx.cell 2 rfl
  have v3 := bx.cell 3 rfl
  have z0 := bn.cell 0 rfl
  have z1 := bn.cell 1 rfl
  have z2 := bn.cell 2 rfl
  have z3 := bn.cell 3 rfl
  have G0 : Hid (0 < N → ∃ q c, ∀ W, Below E.heap.size E W → Calls Tryz.prog 91 #[(.agg #[.int .i64 x.inputs, .slice p1 x.tables.length c1, .slice (some ⟨b, o, none⟩) x.nodes.length c2, .slice p3 x.outputs.length c3]), .int .i64 (i : Int), .int .i64 0] W
      fun e w' => e = .returned (.agg #[.int .i64 (frm x (i : Int) 0).kind, .int .i64 (frm x (i : Int) 0).a, .int .i64 (frm x (i : Int) 0).b, .slice q (frm x (i : Int) 0).src.length c]) ∧ Below W.heap.size W w') := fun h => by
    obtain ⟨q, c, -, h1⟩ := F0 h
    exact ⟨q, c, fun W hW => h1 W (hB0.trans (hW.mono hB0.size))⟩
  have G1 : Hid (1 < N → ∃ q c, ∀ W, Below E.heap.size E W → Calls Tryz.prog 91 #[(.agg #[.int .i64 x.inputs, .slice p1 x.tables.length c1, .slice (some ⟨b, o, none⟩) x.nodes.length c2, .slice p3 x.outputs.length c3]), .int .i64 (i : Int), .int .i64 1] W
      fun e w' => e = .returned (.agg #[.int .i64 (frm x (i : Int) 1).kind, .int .i64 (frm x (i : Int) 1).a, .int .i64 (frm x (i : Int) 1).b, .slice q (frm x (i : Int) 1).src.length c]) ∧ Below W.heap.size W w') := fun h => by
    obtain ⟨q, c, -, h1⟩ := F1 h
    exact ⟨q, c, fun W hW => h1 W (hB0.trans (hW.mono hB0.size))⟩
  have HE := Lib.hid hE
  have HE1 := Lib.hid hE1
  have HG := Lib.hid hg
  clear hE hE1 hg F0 F1 hBE bx1
  generalize inp x (i : Int) 0 = s0 at *
  generalize inp x (i : Int) 1 = s1 at *
  generalize inp x (i : Int) 2 = s2 at *
  generalize frm x (i : Int) 0 = f0 at *
  generalize frm x (i : Int) 1 = f1 at *
  rcases kinds_of hk with rfl | rfl | rfl | rfl | rfl | rfl | rfl | rfl | rfl | rfl | rfl | rfl | rfl | rfl | rfl | rfl | rfl
  · have hN : N = 0 := by have : kAr ((1 : Int) - 1).toNat = 0 := rfl; omega
    clear har
    rw [show sameK 1 A s0 s1 s2 f0 f1 = -1 by simp [sameK]]
    clear hk hN SC G0 G1
    go_enter Tryz.func53, Tryz.ntmps53
    go_upto_region 1 with fail
    rw [← HE1.out, ← HG.out]
    go_upto_region 2 with fail
    rw [← HE.out, show E1.heap.size = g + 1 by rw [HE1.out, HG.out]; simp]
    go_wp2_with fail
    go_ret
    exact ⟨rfl, hB0⟩
  · have hN : N = 0 := by have : kAr ((2 : Int) - 1).toNat = 0 := rfl; omega
    clear har
    rw [show sameK 2 A s0 s1 s2 f0 f1 = -1 by simp [sameK]]
    clear hk hN SC G0 G1
    go_enter Tryz.func53, Tryz.ntmps53
    go_upto_region 1 with fail
    rw [← HE1.out, ← HG.out]
    go_upto_region 2 with fail
    rw [← HE.out, show E1.heap.size = g + 1 by rw [HE1.out, HG.out]; simp]
    go_wp2_with fail
    go_ret
    exact ⟨rfl, hB0⟩
  · have hN : N = 2 := by have : kAr ((3 : Int) - 1).toNat = 2 := rfl; omega
    clear har
    obtain ⟨b2, o2, rfl, hb2, S0, S1, S2⟩ := SC.out (by omega)
    have r0 := (hB0.cell (p := ⟨b2, o2, none⟩) hb2).trans (S0)
    have r1 := (hB0.cell (p := ⟨b2, o2 + 1, none⟩) hb2).trans (S1 (by omega))
    clear S0 S1 S2
    obtain ⟨q0, d0, C0⟩ := G0.out (by omega)
    replace C0 := Lib.hid C0
    have fd0 := node_field1 f0.kind f0.a f0.b q0 f0.src.length d0
    obtain ⟨q1, d1, C1⟩ := G1.out (by omega)
    replace C1 := Lib.hid C1
    have fd1 := node_field1 f1.kind f1.a f1.b q1 f1.src.length d1
    have hN0 : 0 < N := by omega
    have hN1 : 1 < N := by omega
    clear hk hN SC G0 G1
    cases h0 : isCO f0 0
    case true =>
      rw [show sameK 3 A s0 s1 s2 f0 f1 = s1 by simp [sameK, h0]]
      have I0 := Lib.hid h0
      unfold isCO at I0
      clear h0
      go_enter Tryz.func53, Tryz.ntmps53
      go_upto_region 1 with fail
      rw [← HE1.out, ← HG.out]
      go_upto_region 2 with fail
      rw [← HE.out, show E1.heap.size = g + 1 by rw [HE1.out, HG.out]; simp]
      go_wp2_with fail
      refine (C0.out E (Below.refl _ _)).mono ?_
      rintro e W1 ⟨rfl, h1⟩
      have k1 := h1
      have w1 := bx.below k1
      have v0 := w1.cell 0 rfl
      have v1 := w1.cell 1 rfl
      have v2 := w1.cell 2 rfl
      have v3 := w1.cell 3 rfl
      have CO := Lib.hid (isConstOf_x (k := f0.kind) (a := f0.a) (b := f0.b) (q := q0) (n := f0.src.length) (c := d0) 0 W1)
      rw [I0.out] at CO
      go_wp2_with fail
      refine (CO.out).mono ?_
      rintro e W2 ⟨rfl, h2⟩
      have k2 := k1.trans (h2.mono k1.size)
      have w2 := bx.below k2
      have m2 := bn.below k2
      have v0 := w2.cell 0 rfl
      have v1 := w2.cell 1 rfl
      have v2 := w2.cell 2 rfl
      have v3 := w2.cell 3 rfl
      have z3 := m2.cell 3 rfl
      have z0 := m2.cell 0 rfl
      have r0 := (k2.cell (p := ⟨b2, o2, none⟩) (Nat.lt_of_lt_of_le hb2 hB0.size)).trans r0
      have r1 := (k2.cell (p := ⟨b2, o2 + 1, none⟩) (Nat.lt_of_lt_of_le hb2 hB0.size)).trans r1
      go_wp2_with fail
      go_ret
      exact ⟨rfl, hB0.trans (k2.mono hB0.size)⟩
    have I0 := Lib.hid h0
    unfold isCO at I0
    cases h1 : isCO f1 0
    case true =>
      rw [show sameK 3 A s0 s1 s2 f0 f1 = s0 by simp [sameK, h0, h1]]
      have I1 := Lib.hid h1
      unfold isCO at I1
      clear h0 h1
      go_enter Tryz.func53, Tryz.ntmps53
      go_upto_region 1 with fail
      rw [← HE1.out, ← HG.out]
      go_upto_region 2 with fail
      rw [← HE.out, show E1.heap.size = g + 1 by rw [HE1.out, HG.out]; simp]
      go_wp2_with fail
      refine (C0.out E (Below.refl _ _)).mono ?_
      rintro e W1 ⟨rfl, h1⟩
      have k1 := h1
      have w1 := bx.below k1
      have v0 := w1.cell 0 rfl
      have v1 := w1.cell 1 rfl
      have v2 := w1.cell 2 rfl
      have v3 := w1.cell 3 rfl
      have CO := Lib.hid (isConstOf_x (k := f0.kind) (a := f0.a) (b := f0.b) (q := q0) (n := f0.src.length) (c := d0) 0 W1)
      rw [I0.out] at CO
      go_wp2_with fail
      refine (CO.out).mono ?_
      rintro e W2 ⟨rfl, h2⟩
      have k2 := k1.trans (h2.mono k1.size)
      have w2 := bx.below k2
      have m2 := bn.below k2
      have v0 := w2.cell 0 rfl
      have v1 := w2.cell 1 rfl
      have v2 := w2.cell 2 rfl
      have v3 := w2.cell 3 rfl
      have z3 := m2.cell 3 rfl
      have z0 := m2.cell 0 rfl
      go_wp2_with fail
      refine (C1.out W2 k2).mono ?_
      rintro e W3 ⟨rfl, h3⟩
      have k3 := k2.trans (h3.mono k2.size)
      have w3 := bx.below k3
      have v0 := w3.cell 0 rfl
      have v1 := w3.cell 1 rfl
      have v2 := w3.cell 2 rfl
      have v3 := w3.cell 3 rfl
      have CO := Lib.hid (isConstOf_x (k := f1.kind) (a := f1.a) (b := f1.b) (q := q1) (n := f1.src.length) (c := d1) 0 W3)
      rw [I1.out] at CO
      go_wp2_with fail
      refine (CO.out).mono ?_
      rintro e W4 ⟨rfl, h4⟩
      have k4 := k3.trans (h4.mono k3.size)
      have w4 := bx.below k4
      have m4 := bn.below k4
      have v0 := w4.cell 0 rfl
      have v1 := w4.cell 1 rfl
      have v2 := w4.cell 2 rfl
      have v3 := w4.cell 3 rfl
      have z3 := m4.cell 3 rfl
      have z0 := m4.cell 0 rfl
      have r0 := (k4.cell (p := ⟨b2, o2, none⟩) (Nat.lt_of_lt_of_le hb2 hB0.size)).trans r0
      have r1 := (k4.cell (p := ⟨b2, o2 + 1, none⟩) (Nat.lt_of_lt_of_le hb2 hB0.size)).trans r1
      go_wp2_with fail
      go_ret
      exact ⟨rfl, hB0.trans (k4.mono hB0.size)⟩
    case false =>
      rw [show sameK 3 A s0 s1 s2 f0 f1 = -1 by simp [sameK, h0, h1]]
      have I1 := Lib.hid h1
      unfold isCO at I1
      clear h0 h1
      go_enter Tryz.func53, Tryz.ntmps53
      go_upto_region 1 with fail
      rw [← HE1.out, ← HG.out]
      go_upto_region 2 with fail
      rw [← HE.out, show E1.heap.size = g + 1 by rw [HE1.out, HG.out]; simp]
      go_wp2_with fail
      refine (C0.out E (Below.refl _ _)).mono ?_
      rintro e W1 ⟨rfl, h1⟩
      have k1 := h1
      have w1 := bx.below k1
      have v0 := w1.cell 0 rfl
      have v1 := w1.cell 1 rfl
      have v2 := w1.cell 2 rfl
      have v3 := w1.cell 3 rfl
      have CO := Lib.hid (isConstOf_x (k := f0.kind) (a := f0.a) (b := f0.b) (q := q0) (n := f0.src.length) (c := d0) 0 W1)
      rw [I0.out] at CO
      go_wp2_with fail
      refine (CO.out).mono ?_
      rintro e W2 ⟨rfl, h2⟩
      have k2 := k1.trans (h2.mono k1.size)
      have w2 := bx.below k2
      have m2 := bn.below k2
      have v0 := w2.cell 0 rfl
      have v1 := w2.cell 1 rfl
      have v2 := w2.cell 2 rfl
      have v3 := w2.cell 3 rfl
      have z3 := m2.cell 3 rfl
      have z0 := m2.cell 0 rfl
      go_wp2_with fail
      refine (C1.out W2 k2).mono ?_
      rintro e W3 ⟨rfl, h3⟩
      have k3 := k2.trans (h3.mono k2.size)
      have w3 := bx.below k3
      have v0 := w3.cell 0 rfl
      have v1 := w3.cell 1 rfl
      have v2 := w3.cell 2 rfl
      have v3 := w3.cell 3 rfl
      have CO := Lib.hid (isConstOf_x (k := f1.kind) (a := f1.a) (b := f1.b) (q := q1) (n := f1.src.length) (c := d1) 0 W3)
      rw [I1.out] at CO
      go_wp2_with fail
      refine (CO.out).mono ?_
      rintro e W4 ⟨rfl, h4⟩
      have k4 := k3.trans (h4.mono k3.size)
      have w4 := bx.below k4
      have m4 := bn.below k4
      have v0 := w4.cell 0 rfl
      have v1 := w4.cell 1 rfl
      have v2 := w4.cell 2 rfl
      have v3 := w4.cell 3 rfl
      have z3 := m4.cell 3 rfl
      have z0 := m4.cell 0 rfl
      have r0 := (k4.cell (p := ⟨b2, o2, none⟩) (Nat.lt_of_lt_of_le hb2 hB0.size)).trans r0
      have r1 := (k4.cell (p := ⟨b2, o2 + 1, none⟩) (Nat.lt_of_lt_of_le hb2 hB0.size)).trans r1
      go_wp2_with fail
      go_ret
      exact ⟨rfl, hB0.trans (k4.mono hB0.size)⟩
  · have hN : N = 2 := by have : kAr ((4 : Int) - 1).toNat = 2 := rfl; omega
    clear har
    obtain ⟨b2, o2, rfl, hb2, S0, S1, S2⟩ := SC.out (by omega)
    have r0 := (hB0.cell (p := ⟨b2, o2, none⟩) hb2).trans (S0)
    have r1 := (hB0.cell (p := ⟨b2, o2 + 1, none⟩) hb2).trans (S1 (by omega))
    clear S0 S1 S2
    obtain ⟨q1, d1, C1⟩ := G1.out (by omega)
    replace C1 := Lib.hid C1
    have fd1 := node_field1 f1.kind f1.a f1.b q1 f1.src.length d1
    have hN0 : 0 < N := by omega
    have hN1 : 1 < N := by omega
    clear hk hN SC G0 G1
    cases h1 : isCO f1 0
    case true =>
      rw [show sameK 4 A s0 s1 s2 f0 f1 = s0 by simp [sameK, h1]]
      have I1 := Lib.hid h1
      unfold isCO at I1
      clear h1
      go_enter Tryz.func53, Tryz.ntmps53
      go_upto_region 1 with fail
      rw [← HE1.out, ← HG.out]
      go_upto_region 2 with fail
      rw [← HE.out, show E1.heap.size = g + 1 by rw [HE1.out, HG.out]; simp]
      go_wp2_with fail
      refine (C1.out E (Below.refl _ _)).mono ?_
      rintro e W1 ⟨rfl, h1⟩
      have k1 := h1
      have w1 := bx.below k1
      have v0 := w1.cell 0 rfl
      have v1 := w1.cell 1 rfl
      have v2 := w1.cell 2 rfl
      have v3 := w1.cell 3 rfl
      have CO := Lib.hid (isConstOf_x (k := f1.kind) (a := f1.a) (b := f1.b) (q := q1) (n := f1.src.length) (c := d1) 0 W1)
      rw [I1.out] at CO
      go_wp2_with fail
      refine (CO.out).mono ?_
      rintro e W2 ⟨rfl, h2⟩
      have k2 := k1.trans (h2.mono k1.size)
      have w2 := bx.below k2
      have m2 := bn.below k2
      have v0 := w2.cell 0 rfl
      have v1 := w2.cell 1 rfl
      have v2 := w2.cell 2 rfl
      have v3 := w2.cell 3 rfl
      have z3 := m2.cell 3 rfl
      have z0 := m2.cell 0 rfl
      have r0 := (k2.cell (p := ⟨b2, o2, none⟩) (Nat.lt_of_lt_of_le hb2 hB0.size)).trans r0
      have r1 := (k2.cell (p := ⟨b2, o2 + 1, none⟩) (Nat.lt_of_lt_of_le hb2 hB0.size)).trans r1
      go_wp2_with fail
      go_ret
      exact ⟨rfl, hB0.trans (k2.mono hB0.size)⟩
    case false =>
      rw [show sameK 4 A s0 s1 s2 f0 f1 = -1 by simp [sameK, h1]]
      have I1 := Lib.hid h1
      unfold isCO at I1
      clear h1
      go_enter Tryz.func53, Tryz.ntmps53
      go_upto_region 1 with fail
      rw [← HE1.out, ← HG.out]
      go_upto_region 2 with fail
      rw [← HE.out, show E1.heap.size = g + 1 by rw [HE1.out, HG.out]; simp]
      go_wp2_with fail
      refine (C1.out E (Below.refl _ _)).mono ?_
      rintro e W1 ⟨rfl, h1⟩
      have k1 := h1
      have w1 := bx.below k1
      have v0 := w1.cell 0 rfl
      have v1 := w1.cell 1 rfl
      have v2 := w1.cell 2 rfl
      have v3 := w1.cell 3 rfl
      have CO := Lib.hid (isConstOf_x (k := f1.kind) (a := f1.a) (b := f1.b) (q := q1) (n := f1.src.length) (c := d1) 0 W1)
      rw [I1.out] at CO
      go_wp2_with fail
      refine (CO.out).mono ?_
      rintro e W2 ⟨rfl, h2⟩
      have k2 := k1.trans (h2.mono k1.size)
      have w2 := bx.below k2
      have m2 := bn.below k2
      have v0 := w2.cell 0 rfl
      have v1 := w2.cell 1 rfl
      have v2 := w2.cell 2 rfl
      have v3 := w2.cell 3 rfl
      have z3 := m2.cell 3 rfl
      have z0 := m2.cell 0 rfl
      have r0 := (k2.cell (p := ⟨b2, o2, none⟩) (Nat.lt_of_lt_of_le hb2 hB0.size)).trans r0
      have r1 := (k2.cell (p := ⟨b2, o2 + 1, none⟩) (Nat.lt_of_lt_of_le hb2 hB0.size)).trans r1
      go_wp2_with fail
      go_ret
      exact ⟨rfl, hB0.trans (k2.mono hB0.size)⟩
  · have hN : N = 1 := by have : kAr ((5 : Int) - 1).toNat = 1 := rfl; omega
    clear har
    obtain ⟨b2, o2, rfl, hb2, S0, S1, S2⟩ := SC.out (by omega)
    have r0 := (hB0.cell (p := ⟨b2, o2, none⟩) hb2).trans (S0)
    clear S0 S1 S2
    have hN0 : 0 < N := by omega
    clear hk hN SC G0 G1
    by_cases hA : A = 1
    · rw [show sameK 5 A s0 s1 s2 f0 f1 = s0 by simp [sameK, hA]]
      have hq : (A == 1) = true := by rw [beq_iff_eq]; exact hA
      clear hA
      go_enter Tryz.func53, Tryz.ntmps53
      go_upto_region 1 with fail
      rw [← HE1.out, ← HG.out]
      go_upto_region 2 with fail
      rw [← HE.out, show E1.heap.size = g + 1 by rw [HE1.out, HG.out]; simp]
      go_wp2_with fail
      go_ret
      exact ⟨rfl, hB0⟩
    · rw [show sameK 5 A s0 s1 s2 f0 f1 = -1 by simp [sameK, hA]]
      have hq : (A == 1) = false := by rw [beq_eq_false_iff_ne]; exact hA
      clear hA
      go_enter Tryz.func53, Tryz.ntmps53
      go_upto_region 1 with fail
      rw [← HE1.out, ← HG.out]
      go_upto_region 2 with fail
      rw [← HE.out, show E1.heap.size = g + 1 by rw [HE1.out, HG.out]; simp]
      go_wp2_with fail
      go_ret
      exact ⟨rfl, hB0⟩
  · have hN : N = 1 := by have : kAr ((6 : Int) - 1).toNat = 1 := rfl; omega
    clear har
    rw [show sameK 6 A s0 s1 s2 f0 f1 = -1 by simp [sameK]]
    clear hk hN SC G0 G1
    go_enter Tryz.func53, Tryz.ntmps53
    go_upto_region 1 with fail
    rw [← HE1.out, ← HG.out]
    go_upto_region 2 with fail
    rw [← HE.out, show E1.heap.size = g + 1 by rw [HE1.out, HG.out]; simp]
    go_wp2_with fail
    go_ret
    exact ⟨rfl, hB0⟩
  · have hN : N = 1 := by have : kAr ((7 : Int) - 1).toNat = 1 := rfl; omega
    clear har
    rw [show sameK 7 A s0 s1 s2 f0 f1 = -1 by simp [sameK]]
    clear hk hN SC G0 G1
    go_enter Tryz.func53, Tryz.ntmps53
    go_upto_region 1 with fail
    rw [← HE1.out, ← HG.out]
    go_upto_region 2 with fail
    rw [← HE.out, show E1.heap.size = g + 1 by rw [HE1.out, HG.out]; simp]
    go_wp2_with fail
    go_ret
    exact ⟨rfl, hB0⟩
  · have hN : N = 1 := by have : kAr ((8 : Int) - 1).toNat = 1 := rfl; omega
    clear har
    rw [show sameK 8 A s0 s1 s2 f0 f1 = -1 by simp [sameK]]
    clear hk hN SC G0 G1
    go_enter Tryz.func53, Tryz.ntmps53
    go_upto_region 1 with fail
    rw [← HE1.out, ← HG.out]
    go_upto_region 2 with fail
    rw [← HE.out, show E1.heap.size = g + 1 by rw [HE1.out, HG.out]; simp]
    go_wp2_with fail
    go_ret
    exact ⟨rfl, hB0⟩
  · have hN : N = 2 := by have : kAr ((9 : Int) - 1).toNat = 2 := rfl; omega
    clear har
    rw [show sameK 9 A s0 s1 s2 f0 f1 = -1 by simp [sameK]]
    clear hk hN SC G0 G1
    go_enter Tryz.func53, Tryz.ntmps53
    go_upto_region 1 with fail
    rw [← HE1.out, ← HG.out]
    go_upto_region 2 with fail
    rw [← HE.out, show E1.heap.size = g + 1 by rw [HE1.out, HG.out]; simp]
    go_wp2_with fail
    go_ret
    exact ⟨rfl, hB0⟩
  · have hN : N = 1 := by have : kAr ((10 : Int) - 1).toNat = 1 := rfl; omega
    clear har
    obtain ⟨b2, o2, rfl, hb2, S0, S1, S2⟩ := SC.out (by omega)
    have r0 := (hB0.cell (p := ⟨b2, o2, none⟩) hb2).trans (S0)
    clear S0 S1 S2
    have hN0 : 0 < N := by omega
    clear hk hN SC G0 G1
    by_cases hA : A = 0
    · rw [show sameK 10 A s0 s1 s2 f0 f1 = s0 by simp [sameK, hA]]
      have hq : (A == 0) = true := by rw [beq_iff_eq]; exact hA
      clear hA
      go_enter Tryz.func53, Tryz.ntmps53
      go_upto_region 1 with fail
      rw [← HE1.out, ← HG.out]
      go_upto_region 2 with fail
      rw [← HE.out, show E1.heap.size = g + 1 by rw [HE1.out, HG.out]; simp]
      go_wp2_with fail
      go_ret
      exact ⟨rfl, hB0⟩
    · rw [show sameK 10 A s0 s1 s2 f0 f1 = -1 by simp [sameK, hA]]
      have hq : (A == 0) = false := by rw [beq_eq_false_iff_ne]; exact hA
      clear hA
      go_enter Tryz.func53, Tryz.ntmps53
      go_upto_region 1 with fail
      rw [← HE1.out, ← HG.out]
      go_upto_region 2 with fail
      rw [← HE.out, show E1.heap.size = g + 1 by rw [HE1.out, HG.out]; simp]
      go_wp2_with fail
      go_ret
      exact ⟨rfl, hB0⟩
  · have hN : N = 1 := by have : kAr ((11 : Int) - 1).toNat = 1 := rfl; omega
    clear har
    rw [show sameK 11 A s0 s1 s2 f0 f1 = -1 by simp [sameK]]
    clear hk hN SC G0 G1
    go_enter Tryz.func53, Tryz.ntmps53
    go_upto_region 1 with fail
    rw [← HE1.out, ← HG.out]
    go_upto_region 2 with fail
    rw [← HE.out, show E1.heap.size = g + 1 by rw [HE1.out, HG.out]; simp]
    go_wp2_with fail
    go_ret
    exact ⟨rfl, hB0⟩
  · have hN : N = 1 := by have : kAr ((12 : Int) - 1).toNat = 1 := rfl; omega
    clear har
    rw [show sameK 12 A s0 s1 s2 f0 f1 = -1 by simp [sameK]]
    clear hk hN SC G0 G1
    go_enter Tryz.func53, Tryz.ntmps53
    go_upto_region 1 with fail
    rw [← HE1.out, ← HG.out]
    go_upto_region 2 with fail
    rw [← HE.out, show E1.heap.size = g + 1 by rw [HE1.out, HG.out]; simp]
    go_wp2_with fail
    go_ret
    exact ⟨rfl, hB0⟩
  · have hN : N = 1 := by have : kAr ((13 : Int) - 1).toNat = 1 := rfl; omega
    clear har
    rw [show sameK 13 A s0 s1 s2 f0 f1 = -1 by simp [sameK]]
    clear hk hN SC G0 G1
    go_enter Tryz.func53, Tryz.ntmps53
    go_upto_region 1 with fail
    rw [← HE1.out, ← HG.out]
    go_upto_region 2 with fail
    rw [← HE.out, show E1.heap.size = g + 1 by rw [HE1.out, HG.out]; simp]
    go_wp2_with fail
    go_ret
    exact ⟨rfl, hB0⟩
  · have hN : N = 0 := by have : kAr ((14 : Int) - 1).toNat = 0 := rfl; omega
    clear har
    rw [show sameK 14 A s0 s1 s2 f0 f1 = -1 by simp [sameK]]
    clear hk hN SC G0 G1
    go_enter Tryz.func53, Tryz.ntmps53
    go_upto_region 1 with fail
    rw [← HE1.out, ← HG.out]
    go_upto_region 2 with fail
    rw [← HE.out, show E1.heap.size = g + 1 by rw [HE1.out, HG.out]; simp]
    go_wp2_with fail
    go_ret
    exact ⟨rfl, hB0⟩
  · have hN : N = 3 := by have : kAr ((15 : Int) - 1).toNat = 3 := rfl; omega
    clear har
    obtain ⟨b2, o2, rfl, hb2, S0, S1, S2⟩ := SC.out (by omega)
    have r0 := (hB0.cell (p := ⟨b2, o2, none⟩) hb2).trans (S0)
    have r1 := (hB0.cell (p := ⟨b2, o2 + 1, none⟩) hb2).trans (S1 (by omega))
    have r2 := (hB0.cell (p := ⟨b2, o2 + 2, none⟩) hb2).trans (S2 (by omega))
    clear S0 S1 S2
    obtain ⟨q0, d0, C0⟩ := G0.out (by omega)
    replace C0 := Lib.hid C0
    have fd0 := node_field1 f0.kind f0.a f0.b q0 f0.src.length d0
    have hN0 : 0 < N := by omega
    have hN1 : 1 < N := by omega
    have hN2 : 2 < N := by omega
    clear hk hN SC G0 G1
    by_cases h12 : s1 = s2
    case pos =>
      rw [show sameK 15 A s0 s1 s2 f0 f1 = s1 by simp [sameK, h12]]
      have hq : (s1 == s2) = true := by rw [beq_iff_eq]; exact h12
      clear h12
      have a0 := cell_regrown z0
      have a1 := cell_regrown z1
      have a2 := cell_regrown z2
      have a3 := cell_regrown z3
      have e0 := cell_regrown v0
      have e1 := cell_regrown v1
      have e2 := cell_regrown v2
      have e3 := cell_regrown v3
      have t0 := cell_regrown r0
      have t1 := cell_regrown r1
      have t2 := cell_regrown r2
      have KF := Lib.hid (fun n os => Calls.regrown_of (C0.out _ (below_regrown E n os)))
      have KC := Lib.hid (fun n os => Calls.regrown_of (isConst_x (k := f0.kind) (a := f0.a) (b := f0.b) (q := q0) (n := f0.src.length) (c := d0) (grow (redrawn E n) os)))
      go_enter Tryz.func53, Tryz.ntmps53
      go_upto_region 1 with fail
      rw [← HE1.out, ← HG.out]
      go_upto_region 2 with fail
      rw [← HE.out, show E1.heap.size = g + 1 by rw [HE1.out, HG.out]; simp]
      go_wp2_with fail
      refine wp_region_quiet_below (by kernel_rfl) (by kernel_rfl) ?_
      repeat (first | go_big_quiet_step ((first | (go_at_call 91; exact KF.out _ _) | (go_at_call 90; exact KC.out _ _))) | quiet_step ((first | (go_at_call 91; exact KF.out _ _) | (go_at_call 90; exact KC.out _ _))))
      refine wpQuiet_nil ?_
      intro _ hw'
      obtain ⟨⟨dq, osq⟩, hw''⟩ := hw'
      subst hw''
      clear a0 a1 a2 a3 e0 e1 e2 e3 t0 t1 t2
      have k2 := below_regrown E dq osq
      have w2 := bx.below k2
      have m2 := bn.below k2
      generalize grow (redrawn E dq) osq = W2 at k2 w2 m2 ⊢
      have v0 := w2.cell 0 rfl
      have v1 := w2.cell 1 rfl
      have v2 := w2.cell 2 rfl
      have v3 := w2.cell 3 rfl
      have z3 := m2.cell 3 rfl
      have z0 := m2.cell 0 rfl
      have r0 := (k2.cell (p := ⟨b2, o2, none⟩) (Nat.lt_of_lt_of_le hb2 hB0.size)).trans r0
      have r1 := (k2.cell (p := ⟨b2, o2 + 1, none⟩) (Nat.lt_of_lt_of_le hb2 hB0.size)).trans r1
      have r2 := (k2.cell (p := ⟨b2, o2 + 2, none⟩) (Nat.lt_of_lt_of_le hb2 hB0.size)).trans r2
      go_wp2_with fail
      go_ret
      exact ⟨rfl, hB0.trans (k2.mono hB0.size)⟩
    have hq : (s1 == s2) = false := by rw [beq_eq_false_iff_ne]; exact h12
    cases h0 : isC f0
    case false =>
      rw [show sameK 15 A s0 s1 s2 f0 f1 = -1 by simp [sameK, h0, h12]]
      have I0 := Lib.hid h0
      unfold isC at I0
      clear h0 h12
      have a0 := cell_regrown z0
      have a1 := cell_regrown z1
      have a2 := cell_regrown z2
      have a3 := cell_regrown z3
      have e0 := cell_regrown v0
      have e1 := cell_regrown v1
      have e2 := cell_regrown v2
      have e3 := cell_regrown v3
      have t0 := cell_regrown r0
      have t1 := cell_regrown r1
      have t2 := cell_regrown r2
      have KF := Lib.hid (fun n os => Calls.regrown_of (C0.out _ (below_regrown E n os)))
      have KC := Lib.hid (fun n os => Calls.regrown_of (isConst_x (k := f0.kind) (a := f0.a) (b := f0.b) (q := q0) (n := f0.src.length) (c := d0) (grow (redrawn E n) os)))
      rw [I0.out] at KC
      go_enter Tryz.func53, Tryz.ntmps53
      go_upto_region 1 with fail
      rw [← HE1.out, ← HG.out]
      go_upto_region 2 with fail
      rw [← HE.out, show E1.heap.size = g + 1 by rw [HE1.out, HG.out]; simp]
      go_wp2_with fail
      refine wp_region_quiet_below (by kernel_rfl) (by kernel_rfl) ?_
      repeat (first | go_big_quiet_step ((first | (go_at_call 91; exact KF.out _ _) | (go_at_call 90; exact KC.out _ _))) | quiet_step ((first | (go_at_call 91; exact KF.out _ _) | (go_at_call 90; exact KC.out _ _))))
      refine wpQuiet_nil ?_
      intro _ hw'
      obtain ⟨⟨dq, osq⟩, hw''⟩ := hw'
      subst hw''
      clear a0 a1 a2 a3 e0 e1 e2 e3 t0 t1 t2
      have k2 := below_regrown E dq osq
      have w2 := bx.below k2
      have m2 := bn.below k2
      generalize grow (redrawn E dq) osq = W2 at k2 w2 m2 ⊢
      have v0 := w2.cell 0 rfl
      have v1 := w2.cell 1 rfl
      have v2 := w2.cell 2 rfl
      have v3 := w2.cell 3 rfl
      have z3 := m2.cell 3 rfl
      have z0 := m2.cell 0 rfl
      go_wp2_with fail
      refine (C0.out W2 k2).mono ?_
      rintro e W3 ⟨rfl, h3⟩
      have k3 := k2.trans (h3.mono k2.size)
      have w3 := bx.below k3
      have v0 := w3.cell 0 rfl
      have v1 := w3.cell 1 rfl
      have v2 := w3.cell 2 rfl
      have v3 := w3.cell 3 rfl
      have CO := Lib.hid (isConst_x (k := f0.kind) (a := f0.a) (b := f0.b) (q := q0) (n := f0.src.length) (c := d0) W3)
      rw [I0.out] at CO
      go_wp2_with fail
      refine (CO.out).mono ?_
      rintro e W4 ⟨rfl, h4⟩
      have k4 := k3.trans (h4.mono k3.size)
      have w4 := bx.below k4
      have m4 := bn.below k4
      have v0 := w4.cell 0 rfl
      have v1 := w4.cell 1 rfl
      have v2 := w4.cell 2 rfl
      have v3 := w4.cell 3 rfl
      have z3 := m4.cell 3 rfl
      have z0 := m4.cell 0 rfl
      have r0 := (k4.cell (p := ⟨b2, o2, none⟩) (Nat.lt_of_lt_of_le hb2 hB0.size)).trans r0
      have r1 := (k4.cell (p := ⟨b2, o2 + 1, none⟩) (Nat.lt_of_lt_of_le hb2 hB0.size)).trans r1
      have r2 := (k4.cell (p := ⟨b2, o2 + 2, none⟩) (Nat.lt_of_lt_of_le hb2 hB0.size)).trans r2
      go_wp2_with fail
      go_ret
      exact ⟨rfl, hB0.trans (k4.mono hB0.size)⟩
    have I0 := Lib.hid h0
    unfold isC at I0
    by_cases hp : 0 ≤ f0.a
    case pos =>
      rw [show sameK 15 A s0 s1 s2 f0 f1 = s1 by simp [sameK, h0, hp]]
      have hd : decide (0 ≤ f0.a) = true := by simp [hp]
      clear h0 h12
      have a0 := cell_regrown z0
      have a1 := cell_regrown z1
      have a2 := cell_regrown z2
      have a3 := cell_regrown z3
      have e0 := cell_regrown v0
      have e1 := cell_regrown v1
      have e2 := cell_regrown v2
      have e3 := cell_regrown v3
      have t0 := cell_regrown r0
      have t1 := cell_regrown r1
      have t2 := cell_regrown r2
      have KF := Lib.hid (fun n os => Calls.regrown_of (C0.out _ (below_regrown E n os)))
      have KC := Lib.hid (fun n os => Calls.regrown_of (isConst_x (k := f0.kind) (a := f0.a) (b := f0.b) (q := q0) (n := f0.src.length) (c := d0) (grow (redrawn E n) os)))
      rw [I0.out] at KC
      go_enter Tryz.func53, Tryz.ntmps53
      go_upto_region 1 with fail
      rw [← HE1.out, ← HG.out]
      go_upto_region 2 with fail
      rw [← HE.out, show E1.heap.size = g + 1 by rw [HE1.out, HG.out]; simp]
      go_wp2_with fail
      refine wp_region_quiet_below (by kernel_rfl) (by kernel_rfl) ?_
      repeat (first | go_big_quiet_step ((first | (go_at_call 91; exact KF.out _ _) | (go_at_call 90; exact KC.out _ _))) | quiet_step ((first | (go_at_call 91; exact KF.out _ _) | (go_at_call 90; exact KC.out _ _))))
      refine wpQuiet_nil ?_
      intro _ hw'
      obtain ⟨⟨dq, osq⟩, hw''⟩ := hw'
      subst hw''
      clear a0 a1 a2 a3 e0 e1 e2 e3 t0 t1 t2
      have k2 := below_regrown E dq osq
      have w2 := bx.below k2
      have m2 := bn.below k2
      generalize grow (redrawn E dq) osq = W2 at k2 w2 m2 ⊢
      have v0 := w2.cell 0 rfl
      have v1 := w2.cell 1 rfl
      have v2 := w2.cell 2 rfl
      have v3 := w2.cell 3 rfl
      have z3 := m2.cell 3 rfl
      have z0 := m2.cell 0 rfl
      have r0 := (k2.cell (p := ⟨b2, o2, none⟩) (Nat.lt_of_lt_of_le hb2 hB0.size)).trans r0
      have r1 := (k2.cell (p := ⟨b2, o2 + 1, none⟩) (Nat.lt_of_lt_of_le hb2 hB0.size)).trans r1
      have r2 := (k2.cell (p := ⟨b2, o2 + 2, none⟩) (Nat.lt_of_lt_of_le hb2 hB0.size)).trans r2
      go_wp2_with fail
      go_ret
      exact ⟨rfl, hB0.trans (k2.mono hB0.size)⟩
    case neg =>
      rw [show sameK 15 A s0 s1 s2 f0 f1 = s2 by simp [sameK, h0, hp, h12]]
      have hd : decide (0 ≤ f0.a) = false := by simp [hp]
      clear h0 h12
      have a0 := cell_regrown z0
      have a1 := cell_regrown z1
      have a2 := cell_regrown z2
      have a3 := cell_regrown z3
      have e0 := cell_regrown v0
      have e1 := cell_regrown v1
      have e2 := cell_regrown v2
      have e3 := cell_regrown v3
      have t0 := cell_regrown r0
      have t1 := cell_regrown r1
      have t2 := cell_regrown r2
      have KF := Lib.hid (fun n os => Calls.regrown_of (C0.out _ (below_regrown E n os)))
      have KC := Lib.hid (fun n os => Calls.regrown_of (isConst_x (k := f0.kind) (a := f0.a) (b := f0.b) (q := q0) (n := f0.src.length) (c := d0) (grow (redrawn E n) os)))
      rw [I0.out] at KC
      go_enter Tryz.func53, Tryz.ntmps53
      go_upto_region 1 with fail
      rw [← HE1.out, ← HG.out]
      go_upto_region 2 with fail
      rw [← HE.out, show E1.heap.size = g + 1 by rw [HE1.out, HG.out]; simp]
      go_wp2_with fail
      refine wp_region_quiet_below (by kernel_rfl) (by kernel_rfl) ?_
      repeat (first | go_big_quiet_step ((first | (go_at_call 91; exact KF.out _ _) | (go_at_call 90; exact KC.out _ _))) | quiet_step ((first | (go_at_call 91; exact KF.out _ _) | (go_at_call 90; exact KC.out _ _))))
      refine wpQuiet_nil ?_
      intro _ hw'
      obtain ⟨⟨dq, osq⟩, hw''⟩ := hw'
      subst hw''
      clear a0 a1 a2 a3 e0 e1 e2 e3 t0 t1 t2
      have k2 := below_regrown E dq osq
      have w2 := bx.below k2
      have m2 := bn.below k2
      generalize grow (redrawn E dq) osq = W2 at k2 w2 m2 ⊢
      have v0 := w2.cell 0 rfl
      have v1 := w2.cell 1 rfl
      have v2 := w2.cell 2 rfl
      have v3 := w2.cell 3 rfl
      have z3 := m2.cell 3 rfl
      have z0 := m2.cell 0 rfl
      go_wp2_with fail
      refine (C0.out W2 k2).mono ?_
      rintro e W3 ⟨rfl, h3⟩
      have k3 := k2.trans (h3.mono k2.size)
      have w3 := bx.below k3
      have v0 := w3.cell 0 rfl
      have v1 := w3.cell 1 rfl
      have v2 := w3.cell 2 rfl
      have v3 := w3.cell 3 rfl
      have CO := Lib.hid (isConst_x (k := f0.kind) (a := f0.a) (b := f0.b) (q := q0) (n := f0.src.length) (c := d0) W3)
      rw [I0.out] at CO
      go_wp2_with fail
      refine (CO.out).mono ?_
      rintro e W4 ⟨rfl, h4⟩
      have k4 := k3.trans (h4.mono k3.size)
      have w4 := bx.below k4
      have m4 := bn.below k4
      have v0 := w4.cell 0 rfl
      have v1 := w4.cell 1 rfl
      have v2 := w4.cell 2 rfl
      have v3 := w4.cell 3 rfl
      have z3 := m4.cell 3 rfl
      have z0 := m4.cell 0 rfl
      have r0 := (k4.cell (p := ⟨b2, o2, none⟩) (Nat.lt_of_lt_of_le hb2 hB0.size)).trans r0
      have r1 := (k4.cell (p := ⟨b2, o2 + 1, none⟩) (Nat.lt_of_lt_of_le hb2 hB0.size)).trans r1
      have r2 := (k4.cell (p := ⟨b2, o2 + 2, none⟩) (Nat.lt_of_lt_of_le hb2 hB0.size)).trans r2
      go_wp2_with fail
      go_ret
      exact ⟨rfl, hB0.trans (k4.mono hB0.size)⟩
  · have hN : N = 2 := by have : kAr ((16 : Int) - 1).toNat = 2 := rfl; omega
    clear har
    obtain ⟨b2, o2, rfl, hb2, S0, S1, S2⟩ := SC.out (by omega)
    have r0 := (hB0.cell (p := ⟨b2, o2, none⟩) hb2).trans (S0)
    have r1 := (hB0.cell (p := ⟨b2, o2 + 1, none⟩) hb2).trans (S1 (by omega))
    clear S0 S1 S2
    obtain ⟨q1, d1, C1⟩ := G1.out (by omega)
    replace C1 := Lib.hid C1
    have fd1 := node_field1 f1.kind f1.a f1.b q1 f1.src.length d1
    have hN0 : 0 < N := by omega
    have hN1 : 1 < N := by omega
    clear hk hN SC G0 G1
    cases h1 : isC f1
    case false =>
      rw [show sameK 16 A s0 s1 s2 f0 f1 = -1 by simp [sameK, h1]]
      have I1 := Lib.hid h1
      unfold isC at I1
      clear h1
      go_enter Tryz.func53, Tryz.ntmps53
      go_upto_region 1 with fail
      rw [← HE1.out, ← HG.out]
      go_upto_region 2 with fail
      rw [← HE.out, show E1.heap.size = g + 1 by rw [HE1.out, HG.out]; simp]
      go_wp2_with fail
      refine (C1.out E (Below.refl _ _)).mono ?_
      rintro e W1 ⟨rfl, h1⟩
      have k1 := h1
      have w1 := bx.below k1
      have v0 := w1.cell 0 rfl
      have v1 := w1.cell 1 rfl
      have v2 := w1.cell 2 rfl
      have v3 := w1.cell 3 rfl
      have CO := Lib.hid (isConst_x (k := f1.kind) (a := f1.a) (b := f1.b) (q := q1) (n := f1.src.length) (c := d1) W1)
      rw [I1.out] at CO
      go_wp2_with fail
      refine (CO.out).mono ?_
      rintro e W2 ⟨rfl, h2⟩
      have k2 := k1.trans (h2.mono k1.size)
      have w2 := bx.below k2
      have m2 := bn.below k2
      have v0 := w2.cell 0 rfl
      have v1 := w2.cell 1 rfl
      have v2 := w2.cell 2 rfl
      have v3 := w2.cell 3 rfl
      have z3 := m2.cell 3 rfl
      have z0 := m2.cell 0 rfl
      have r0 := (k2.cell (p := ⟨b2, o2, none⟩) (Nat.lt_of_lt_of_le hb2 hB0.size)).trans r0
      have r1 := (k2.cell (p := ⟨b2, o2 + 1, none⟩) (Nat.lt_of_lt_of_le hb2 hB0.size)).trans r1
      go_wp2_with fail
      go_ret
      exact ⟨rfl, hB0.trans (k2.mono hB0.size)⟩
    have I1 := Lib.hid h1
    unfold isC at I1
    by_cases hp : 0 < f1.a
    case pos =>
      rw [show sameK 16 A s0 s1 s2 f0 f1 = s0 by simp [sameK, h1, hp]]
      have hd : decide (0 < f1.a) = true := by simp [hp]
      clear h1
      go_enter Tryz.func53, Tryz.ntmps53
      go_upto_region 1 with fail
      rw [← HE1.out, ← HG.out]
      go_upto_region 2 with fail
      rw [← HE.out, show E1.heap.size = g + 1 by rw [HE1.out, HG.out]; simp]
      go_wp2_with fail
      refine (C1.out E (Below.refl _ _)).mono ?_
      rintro e W1 ⟨rfl, h1⟩
      have k1 := h1
      have w1 := bx.below k1
      have v0 := w1.cell 0 rfl
      have v1 := w1.cell 1 rfl
      have v2 := w1.cell 2 rfl
      have v3 := w1.cell 3 rfl
      have CO := Lib.hid (isConst_x (k := f1.kind) (a := f1.a) (b := f1.b) (q := q1) (n := f1.src.length) (c := d1) W1)
      rw [I1.out] at CO
      go_wp2_with fail
      refine (CO.out).mono ?_
      rintro e W2 ⟨rfl, h2⟩
      have k2 := k1.trans (h2.mono k1.size)
      have w2 := bx.below k2
      have m2 := bn.below k2
      have v0 := w2.cell 0 rfl
      have v1 := w2.cell 1 rfl
      have v2 := w2.cell 2 rfl
      have v3 := w2.cell 3 rfl
      have z3 := m2.cell 3 rfl
      have z0 := m2.cell 0 rfl
      go_wp2_with fail
      refine (C1.out W2 k2).mono ?_
      rintro e W3 ⟨rfl, h3⟩
      have k3 := k2.trans (h3.mono k2.size)
      have w3 := bx.below k3
      have v0 := w3.cell 0 rfl
      have v1 := w3.cell 1 rfl
      have v2 := w3.cell 2 rfl
      have v3 := w3.cell 3 rfl
      have w3n := bn.below k3
      have z3 := w3n.cell 3 rfl
      have r0 := (k3.cell (p := ⟨b2, o2, none⟩) (Nat.lt_of_lt_of_le hb2 hB0.size)).trans r0
      have r1 := (k3.cell (p := ⟨b2, o2 + 1, none⟩) (Nat.lt_of_lt_of_le hb2 hB0.size)).trans r1
      go_wp2_with fail
      go_ret
      exact ⟨rfl, hB0.trans (k3.mono hB0.size)⟩
    case neg =>
      rw [show sameK 16 A s0 s1 s2 f0 f1 = -1 by simp [sameK, h1, hp]]
      have hd : decide (0 < f1.a) = false := by simp [hp]
      clear h1
      go_enter Tryz.func53, Tryz.ntmps53
      go_upto_region 1 with fail
      rw [← HE1.out, ← HG.out]
      go_upto_region 2 with fail
      rw [← HE.out, show E1.heap.size = g + 1 by rw [HE1.out, HG.out]; simp]
      go_wp2_with fail
      refine (C1.out E (Below.refl _ _)).mono ?_
      rintro e W1 ⟨rfl, h1⟩
      have k1 := h1
      have w1 := bx.below k1
      have v0 := w1.cell 0 rfl
      have v1 := w1.cell 1 rfl
      have v2 := w1.cell 2 rfl
      have v3 := w1.cell 3 rfl
      have CO := Lib.hid (isConst_x (k := f1.kind) (a := f1.a) (b := f1.b) (q := q1) (n := f1.src.length) (c := d1) W1)
      rw [I1.out] at CO
      go_wp2_with fail
      refine (CO.out).mono ?_
      rintro e W2 ⟨rfl, h2⟩
      have k2 := k1.trans (h2.mono k1.size)
      have w2 := bx.below k2
      have m2 := bn.below k2
      have v0 := w2.cell 0 rfl
      have v1 := w2.cell 1 rfl
      have v2 := w2.cell 2 rfl
      have v3 := w2.cell 3 rfl
      have z3 := m2.cell 3 rfl
      have z0 := m2.cell 0 rfl
      go_wp2_with fail
      refine (C1.out W2 k2).mono ?_
      rintro e W3 ⟨rfl, h3⟩
      have k3 := k2.trans (h3.mono k2.size)
      have w3 := bx.below k3
      have v0 := w3.cell 0 rfl
      have v1 := w3.cell 1 rfl
      have v2 := w3.cell 2 rfl
      have v3 := w3.cell 3 rfl
      have w3n := bn.below k3
      have z3 := w3n.cell 3 rfl
      have r0 := (k3.cell (p := ⟨b2, o2, none⟩) (Nat.lt_of_lt_of_le hb2 hB0.size)).trans r0
      have r1 := (k3.cell (p := ⟨b2, o2 + 1, none⟩) (Nat.lt_of_lt_of_le hb2 hB0.size)).trans r1
      go_wp2_with fail
      go_ret
      exact ⟨rfl, hB0.trans (k3.mono hB0.size)⟩
  · have hN : N = 1 := by have : kAr ((17 : Int) - 1).toNat = 1 := rfl; omega
    clear har
    rw [show sameK 17 A s0 s1 s2 f0 f1 = -1 by simp [sameK]]
    clear hk hN SC G0 G1
    go_enter Tryz.func53, Tryz.ntmps53
    go_upto_region 1 with fail
    rw [← HE1.out, ← HG.out]
    go_upto_region 2 with fail
    rw [← HE.out, show E1.heap.size = g + 1 by rw [HE1.out, HG.out]; simp]
    go_wp2_with fail
    go_ret
    exact ⟨rfl, hB0⟩
end Go.Proofs.YtcfhcmgmkhfjjaaGreat

namespace Go.Proofs.YtcfhcmgmkhfjjaaGreat
open Go.ChangeShapes Go.WideShapes Go.ChangeAt Go.RowKit Go.Sort
set_option linter.unusedVariables false

/-- a patch behind a pointer: where its nodes lie -/
def SPat (w : World) (gp b o c2 : Nat) (x : PatchD) : Prop := w.cell? ⟨gp, 2, none⟩ = some (.slice (some ⟨b, o, none⟩) x.nodes.length c2) ∧ NodesAt w b o x
theorem SPat.below {w w' : World} {gp b o c2 : Nat} {x : PatchD} (h : SPat w gp b o c2 x) (hb : Below w.heap.size w w') : SPat w' gp b o c2 x :=
  ⟨(hb.cell (p := ⟨gp, 2, none⟩) (World.block_lt_of_cell? w _ h.1)).trans h.1, h.2.below hb⟩
theorem SPat.of {w : World} {g : Nat} {x : PatchD} (h : PPatch w g x) {k : Nat} (hk : k < x.nodes.length) : ∃ b o c2, SPat w g b o c2 x := by
  obtain ⟨p1, c1, p2, c2, p3, c3, bx, -, r2, -⟩ := h
  obtain ⟨b, o, rfl, -, hn⟩ := NodesAt.of r2 hk
  exact ⟨b, o, c2, bx.cell 2 rfl, hn⟩
theorem l10Is_x {x : PatchD} {gp b o c2 j : Nat} (w : World) (h : SPat w gp b o c2 x) (hj : j < x.nodes.length) :
    Calls Tryz.prog 87 #[.pointer (some ⟨gp, 0, none⟩), .int .i64 (j : Int)] w fun e w' => e = .returned (.bool ((nodeAt x.nodes (j : Int)).kind == 2)) ∧ w = w' := by
  obtain ⟨hc, NS⟩ := h
  obtain ⟨y0, -, -, -⟩ := NS j hj
  clear NS
  generalize (nodeAt x.nodes (j : Int)).kind = K at *
  go_enter Tryz.func87, Tryz.ntmps87
  go_wp2_with fail
  go_ret
  exact ⟨rfl, rfl⟩
theorem l10Zero_x {x : PatchD} {gp b o c2 j : Nat} (w : World) (h : SPat w gp b o c2 x) (hj : j < x.nodes.length) :
    Calls Tryz.prog 112 #[.pointer (some ⟨gp, 0, none⟩), .int .i64 (j : Int)] w fun e w' => e = .returned (.bool ((nodeAt x.nodes (j : Int)).kind == 2 && (nodeAt x.nodes (j : Int)).a == 0)) ∧ w = w' := by
  have IS := Lib.hid (l10Is_x w h hj)
  obtain ⟨hc, NS⟩ := h
  obtain ⟨y0, y1, -, -⟩ := NS j hj
  clear NS
  generalize (nodeAt x.nodes (j : Int)).kind = K at *
  generalize (nodeAt x.nodes (j : Int)).a = A at *
  cases hk : (K == 2)
  all_goals
    rw [hk] at IS
    clear hk
    go_enter Tryz.func112, Tryz.ntmps112
    go_wp2_with (go_at_call 87; refine IS.out.mono ?_; rintro e w' ⟨rfl, rfl⟩)
    go_ret
    exact ⟨by simp, rfl⟩
set_option maxHeartbeats 4000000 in
set_option maxRecDepth 100000 in
theorem l10Nothing_x {x : PatchD} {gp b o c2 i : Nat} (w : World) (h : SPat w gp b o c2 x) (hf : formedB x = true) (hi : i < x.nodes.length) :
    Calls Tryz.prog 85 #[.pointer (some ⟨gp, 0, none⟩), .int .i64 (i : Int)] w fun e w' => e = .returned (.bool (zeroB x (i : Int))) ∧ Below w.heap.size w w' := by
  have hn := h.2 i hi
  have hok := nodeAt_ok hf (i := (i : Int)) (by omega) (by omega)
  obtain ⟨hk, har⟩ := nodeB_ar hok
  obtain ⟨y0, y1, y2, q, d, y3, hr⟩ := hn
  have hlen := hr.len
  unfold maxLen at hlen
  have SC : Hid (1 ≤ (nodeAt x.nodes (i : Int)).src.length → ∃ b2 o2, q = some ⟨b2, o2, none⟩ ∧ b2 < w.heap.size ∧ w.cell? ⟨b2, o2, none⟩ = some (.int .i64 (inp x (i : Int) 0)) ∧ (1 < (nodeAt x.nodes (i : Int)).src.length → w.cell? ⟨b2, o2 + 1, none⟩ = some (.int .i64 (inp x (i : Int) 1))) ∧ (2 < (nodeAt x.nodes (i : Int)).src.length → w.cell? ⟨b2, o2 + 2, none⟩ = some (.int .i64 (inp x (i : Int) 2)))) := fun h => by
    obtain ⟨b2, o2, e, hb, hc⟩ := hr.at0 h
    exact ⟨b2, o2, e, hb, hc 0 (by omega), fun h1 => hc 1 h1, fun h2 => hc 2 h2⟩
  have J0 : Hid (0 < (nodeAt x.nodes (i : Int)).src.length → ∃ j : Nat, inp x (i : Int) 0 = (j : Int) ∧ j < x.nodes.length ∧ w.cell? ⟨b, o + j * 4, none⟩ = some (.int .i64 (frm x (i : Int) 0).kind) ∧ w.cell? ⟨b, o + j * 4 + 1, none⟩ = some (.int .i64 (frm x (i : Int) 0).a) ∧
      (∀ W, Below w.heap.size w W → Calls Tryz.prog 87 #[.pointer (some ⟨gp, 0, none⟩), .int .i64 (j : Int)] W fun e w' => e = .returned (.bool ((frm x (i : Int) 0).kind == 2)) ∧ W = w') ∧
      (∀ W, Below w.heap.size w W → Calls Tryz.prog 112 #[.pointer (some ⟨gp, 0, none⟩), .int .i64 (j : Int)] W fun e w' => e = .returned (.bool ((frm x (i : Int) 0).kind == 2 && (frm x (i : Int) 0).a == 0)) ∧ W = w')) := fun hm => by
    obtain ⟨h0, h1⟩ := inp_rng hf (i := (i : Int)) (by omega) (by omega) hm
    obtain ⟨j, hj⟩ := Int.eq_ofNat_of_zero_le h0
    have hjn : j < x.nodes.length := by omega
    have e : frm x (i : Int) 0 = nodeAt x.nodes (j : Int) := by unfold frm; rw [hj]
    rw [e]
    obtain ⟨c0, c1, -, -⟩ := h.2 j hjn
    exact ⟨j, hj, hjn, c0, c1, fun W hW => l10Is_x W (h.below hW) hjn, fun W hW => l10Zero_x W (h.below hW) hjn⟩
  have HZ : zeroB x (i : Int) = zeroK (nodeAt x.nodes (i : Int)).kind (nodeAt x.nodes (i : Int)).a (inp x (i : Int) 0) (inp x (i : Int) 1) (frm x (i : Int) 0) := rfl
  rw [HZ]
  clear HZ
  have hc2 := h.1
  clear hr hok
  generalize (nodeAt x.nodes (i : Int)).kind = K at *
  generalize (nodeAt x.nodes (i : Int)).a = A at *
  generalize (nodeAt x.nodes (i : Int)).b = B at *
  generalize hN : (nodeAt x.nodes (i : Int)).src.length = N at *
  clear hN
  generalize inp x (i : Int) 0 = s0 at *
  generalize inp x (i : Int) 1 = s1 at *
  generalize inp x (i : Int) 2 = s2 at *
  generalize frm x (i : Int) 0 = f0 at *
  generalize frm x (i : Int) 1 = f1 at *
  rcases kinds_of hk with rfl | rfl | rfl | rfl | rfl | rfl | rfl | rfl | rfl | rfl | rfl | rfl | rfl | rfl | rfl | rfl | rfl
  · have hN : N = 0 := by have : kAr ((1 : Int) - 1).toNat = 0 := rfl; omega
    clear har
    rw [show zeroK 1 A s0 s1 f0 = false by simp [zeroK]]
    clear hk hN SC J0
    go_enter Tryz.func85, Tryz.ntmps85
    go_wp2_with fail
    go_ret
    exact ⟨rfl, Below.refl _ _⟩
  · have hN : N = 0 := by have : kAr ((2 : Int) - 1).toNat = 0 := rfl; omega
    clear har
    rw [show zeroK 2 A s0 s1 f0 = false by simp [zeroK]]
    clear hk hN SC J0
    go_enter Tryz.func85, Tryz.ntmps85
    go_wp2_with fail
    go_ret
    exact ⟨rfl, Below.refl _ _⟩
  · have hN : N = 2 := by have : kAr ((3 : Int) - 1).toNat = 2 := rfl; omega
    clear har
    rw [show zeroK 3 A s0 s1 f0 = false by simp [zeroK]]
    clear hk hN SC J0
    go_enter Tryz.func85, Tryz.ntmps85
    go_wp2_with fail
    go_ret
    exact ⟨rfl, Below.refl _ _⟩
  · have hN : N = 2 := by have : kAr ((4 : Int) - 1).toNat = 2 := rfl; omega
    clear har
    rw [show zeroK 4 A s0 s1 f0 = (s0 == s1) by simp [zeroK]]
    obtain ⟨b2, o2, rfl, hb2, r0, S1, S2⟩ := SC.out (by omega)
    have r1 := S1 (by omega)
    clear S1 S2
    subst hN
    clear hk SC J0
    go_enter Tryz.func85, Tryz.ntmps85
    go_wp2_with fail
    go_quiet (fail)
    go_wp2_with fail
    go_ret
    exact ⟨rfl, below_drewN (Below.refl _ _) _⟩
  · have hN : N = 1 := by have : kAr ((5 : Int) - 1).toNat = 1 := rfl; omega
    clear har
    rw [show zeroK 5 A s0 s1 f0 = (A == 0) by simp [zeroK]]
    clear hk hN SC J0
    go_enter Tryz.func85, Tryz.ntmps85
    go_wp2_with fail
    go_ret
    exact ⟨rfl, Below.refl _ _⟩
  · have hN : N = 1 := by have : kAr ((6 : Int) - 1).toNat = 1 := rfl; omega
    clear har
    rw [show zeroK 6 A s0 s1 f0 = isCO f0 0 by simp [zeroK]]
    obtain ⟨b2, o2, rfl, hb2, r0, S1, S2⟩ := SC.out (by omega)
    clear S1 S2
    obtain ⟨j0, rfl, hj0, t0, u0, CI0, CZ0⟩ := J0.out (by omega)
    replace CI0 := Lib.hid CI0
    replace CZ0 := Lib.hid CZ0
    have hN0 : 0 < N := by omega
    clear hk hN SC J0
    go_enter Tryz.func85, Tryz.ntmps85
    go_wp2_with (go_at_call 112; refine (CZ0.out _ (Below.refl _ _)).mono ?_; rintro e w' ⟨rfl, rfl⟩)
    go_ret
    exact ⟨rfl, Below.refl _ _⟩
  · have hN : N = 1 := by have : kAr ((7 : Int) - 1).toNat = 1 := rfl; omega
    clear har
    rw [show zeroK 7 A s0 s1 f0 = isCO f0 0 by simp [zeroK]]
    obtain ⟨b2, o2, rfl, hb2, r0, S1, S2⟩ := SC.out (by omega)
    clear S1 S2
    obtain ⟨j0, rfl, hj0, t0, u0, CI0, CZ0⟩ := J0.out (by omega)
    replace CI0 := Lib.hid CI0
    replace CZ0 := Lib.hid CZ0
    have hN0 : 0 < N := by omega
    clear hk hN SC J0
    go_enter Tryz.func85, Tryz.ntmps85
    go_wp2_with (go_at_call 112; refine (CZ0.out _ (Below.refl _ _)).mono ?_; rintro e w' ⟨rfl, rfl⟩)
    go_ret
    exact ⟨rfl, Below.refl _ _⟩
  · have hN : N = 1 := by have : kAr ((8 : Int) - 1).toNat = 1 := rfl; omega
    clear har
    rw [show zeroK 8 A s0 s1 f0 = isCO f0 0 by simp [zeroK]]
    obtain ⟨b2, o2, rfl, hb2, r0, S1, S2⟩ := SC.out (by omega)
    clear S1 S2
    obtain ⟨j0, rfl, hj0, t0, u0, CI0, CZ0⟩ := J0.out (by omega)
    replace CI0 := Lib.hid CI0
    replace CZ0 := Lib.hid CZ0
    have hN0 : 0 < N := by omega
    clear hk hN SC J0
    go_enter Tryz.func85, Tryz.ntmps85
    go_wp2_with (go_at_call 112; refine (CZ0.out _ (Below.refl _ _)).mono ?_; rintro e w' ⟨rfl, rfl⟩)
    go_ret
    exact ⟨rfl, Below.refl _ _⟩
  · have hN : N = 2 := by have : kAr ((9 : Int) - 1).toNat = 2 := rfl; omega
    clear har
    rw [show zeroK 9 A s0 s1 f0 = false by simp [zeroK]]
    clear hk hN SC J0
    go_enter Tryz.func85, Tryz.ntmps85
    go_wp2_with fail
    go_ret
    exact ⟨rfl, Below.refl _ _⟩
  · have hN : N = 1 := by have : kAr ((10 : Int) - 1).toNat = 1 := rfl; omega
    clear har
    rw [show zeroK 10 A s0 s1 f0 = false by simp [zeroK]]
    clear hk hN SC J0
    go_enter Tryz.func85, Tryz.ntmps85
    go_wp2_with fail
    go_ret
    exact ⟨rfl, Below.refl _ _⟩
  · have hN : N = 1 := by have : kAr ((11 : Int) - 1).toNat = 1 := rfl; omega
    clear har
    rw [show zeroK 11 A s0 s1 f0 = (A == 0) by simp [zeroK]]
    clear hk hN SC J0
    go_enter Tryz.func85, Tryz.ntmps85
    go_wp2_with fail
    go_ret
    exact ⟨rfl, Below.refl _ _⟩
  · have hN : N = 1 := by have : kAr ((12 : Int) - 1).toNat = 1 := rfl; omega
    clear har
    rw [show zeroK 12 A s0 s1 f0 = false by simp [zeroK]]
    clear hk hN SC J0
    go_enter Tryz.func85, Tryz.ntmps85
    go_wp2_with fail
    go_ret
    exact ⟨rfl, Below.refl _ _⟩
  · have hN : N = 1 := by have : kAr ((13 : Int) - 1).toNat = 1 := rfl; omega
    clear har
    rw [show zeroK 13 A s0 s1 f0 = false by simp [zeroK]]
    clear hk hN SC J0
    go_enter Tryz.func85, Tryz.ntmps85
    go_wp2_with fail
    go_ret
    exact ⟨rfl, Below.refl _ _⟩
  · have hN : N = 0 := by have : kAr ((14 : Int) - 1).toNat = 0 := rfl; omega
    clear har
    rw [show zeroK 14 A s0 s1 f0 = false by simp [zeroK]]
    clear hk hN SC J0
    go_enter Tryz.func85, Tryz.ntmps85
    go_wp2_with fail
    go_ret
    exact ⟨rfl, Below.refl _ _⟩
  · have hN : N = 3 := by have : kAr ((15 : Int) - 1).toNat = 3 := rfl; omega
    clear har
    rw [show zeroK 15 A s0 s1 f0 = false by simp [zeroK]]
    clear hk hN SC J0
    go_enter Tryz.func85, Tryz.ntmps85
    go_wp2_with fail
    go_ret
    exact ⟨rfl, Below.refl _ _⟩
  · have hN : N = 2 := by have : kAr ((16 : Int) - 1).toNat = 2 := rfl; omega
    clear har
    rw [show zeroK 16 A s0 s1 f0 = false by simp [zeroK]]
    clear hk hN SC J0
    go_enter Tryz.func85, Tryz.ntmps85
    go_wp2_with fail
    go_ret
    exact ⟨rfl, Below.refl _ _⟩
  · have hN : N = 1 := by have : kAr ((17 : Int) - 1).toNat = 1 := rfl; omega
    clear har
    rw [show zeroK 17 A s0 s1 f0 = isCO f0 0 by simp [zeroK]]
    obtain ⟨b2, o2, rfl, hb2, r0, S1, S2⟩ := SC.out (by omega)
    clear S1 S2
    obtain ⟨j0, rfl, hj0, t0, u0, CI0, CZ0⟩ := J0.out (by omega)
    replace CI0 := Lib.hid CI0
    replace CZ0 := Lib.hid CZ0
    have hN0 : 0 < N := by omega
    clear hk hN SC J0
    go_enter Tryz.func85, Tryz.ntmps85
    go_wp2_with (go_at_call 112; refine (CZ0.out _ (Below.refl _ _)).mono ?_; rintro e w' ⟨rfl, rfl⟩)
    go_ret
    exact ⟨rfl, Below.refl _ _⟩
set_option maxHeartbeats 4000000 in
set_option maxRecDepth 100000 in
theorem l10Select_x {x : PatchD} {gp b o c2 i : Nat} (w : World) (h : SPat w gp b o c2 x) (hf : formedB x = true) (hi : i < x.nodes.length) (h15 : (nodeAt x.nodes (i : Int)).kind = 15) :
    Calls Tryz.prog 113 #[.pointer (some ⟨gp, 0, none⟩), .pointer (some ⟨b, o + i * 4, none⟩)] w fun e w' => e = .returned (.int .i64 (sameI x (i : Int))) ∧ Below w.heap.size w w' := by
  have hn := h.2 i hi
  have hok := nodeAt_ok hf (i := (i : Int)) (by omega) (by omega)
  obtain ⟨hk, har⟩ := nodeB_ar hok
  obtain ⟨y0, y1, y2, q, d, y3, hr⟩ := hn
  have hlen := hr.len
  unfold maxLen at hlen
  have SC : Hid (1 ≤ (nodeAt x.nodes (i : Int)).src.length → ∃ b2 o2, q = some ⟨b2, o2, none⟩ ∧ b2 < w.heap.size ∧ w.cell? ⟨b2, o2, none⟩ = some (.int .i64 (inp x (i : Int) 0)) ∧ (1 < (nodeAt x.nodes (i : Int)).src.length → w.cell? ⟨b2, o2 + 1, none⟩ = some (.int .i64 (inp x (i : Int) 1))) ∧ (2 < (nodeAt x.nodes (i : Int)).src.length → w.cell? ⟨b2, o2 + 2, none⟩ = some (.int .i64 (inp x (i : Int) 2)))) := fun h => by
    obtain ⟨b2, o2, e, hb, hc⟩ := hr.at0 h
    exact ⟨b2, o2, e, hb, hc 0 (by omega), fun h1 => hc 1 h1, fun h2 => hc 2 h2⟩
  have J0 : Hid (0 < (nodeAt x.nodes (i : Int)).src.length → ∃ j : Nat, inp x (i : Int) 0 = (j : Int) ∧ j < x.nodes.length ∧ w.cell? ⟨b, o + j * 4, none⟩ = some (.int .i64 (frm x (i : Int) 0).kind) ∧ w.cell? ⟨b, o + j * 4 + 1, none⟩ = some (.int .i64 (frm x (i : Int) 0).a) ∧
      (∀ W, Below w.heap.size w W → Calls Tryz.prog 87 #[.pointer (some ⟨gp, 0, none⟩), .int .i64 (j : Int)] W fun e w' => e = .returned (.bool ((frm x (i : Int) 0).kind == 2)) ∧ W = w') ∧
      (∀ W, Below w.heap.size w W → Calls Tryz.prog 112 #[.pointer (some ⟨gp, 0, none⟩), .int .i64 (j : Int)] W fun e w' => e = .returned (.bool ((frm x (i : Int) 0).kind == 2 && (frm x (i : Int) 0).a == 0)) ∧ W = w')) := fun hm => by
    obtain ⟨h0, h1⟩ := inp_rng hf (i := (i : Int)) (by omega) (by omega) hm
    obtain ⟨j, hj⟩ := Int.eq_ofNat_of_zero_le h0
    have hjn : j < x.nodes.length := by omega
    have e : frm x (i : Int) 0 = nodeAt x.nodes (j : Int) := by unfold frm; rw [hj]
    rw [e]
    obtain ⟨c0, c1, -, -⟩ := h.2 j hjn
    exact ⟨j, hj, hjn, c0, c1, fun W hW => l10Is_x W (h.below hW) hjn, fun W hW => l10Zero_x W (h.below hW) hjn⟩
  have J1 : Hid (1 < (nodeAt x.nodes (i : Int)).src.length → ∃ j : Nat, inp x (i : Int) 1 = (j : Int) ∧ j < x.nodes.length ∧ w.cell? ⟨b, o + j * 4, none⟩ = some (.int .i64 (frm x (i : Int) 1).kind) ∧ w.cell? ⟨b, o + j * 4 + 1, none⟩ = some (.int .i64 (frm x (i : Int) 1).a) ∧
      (∀ W, Below w.heap.size w W → Calls Tryz.prog 87 #[.pointer (some ⟨gp, 0, none⟩), .int .i64 (j : Int)] W fun e w' => e = .returned (.bool ((frm x (i : Int) 1).kind == 2)) ∧ W = w') ∧
      (∀ W, Below w.heap.size w W → Calls Tryz.prog 112 #[.pointer (some ⟨gp, 0, none⟩), .int .i64 (j : Int)] W fun e w' => e = .returned (.bool ((frm x (i : Int) 1).kind == 2 && (frm x (i : Int) 1).a == 0)) ∧ W = w')) := fun hm => by
    obtain ⟨h0, h1⟩ := inp_rng hf (i := (i : Int)) (by omega) (by omega) hm
    obtain ⟨j, hj⟩ := Int.eq_ofNat_of_zero_le h0
    have hjn : j < x.nodes.length := by omega
    have e : frm x (i : Int) 1 = nodeAt x.nodes (j : Int) := by unfold frm; rw [hj]
    rw [e]
    obtain ⟨c0, c1, -, -⟩ := h.2 j hjn
    exact ⟨j, hj, hjn, c0, c1, fun W hW => l10Is_x W (h.below hW) hjn, fun W hW => l10Zero_x W (h.below hW) hjn⟩
  have J2 : Hid (2 < (nodeAt x.nodes (i : Int)).src.length → ∃ j : Nat, inp x (i : Int) 2 = (j : Int) ∧ j < x.nodes.length ∧ w.cell? ⟨b, o + j * 4, none⟩ = some (.int .i64 (frm x (i : Int) 2).kind) ∧ w.cell? ⟨b, o + j * 4 + 1, none⟩ = some (.int .i64 (frm x (i : Int) 2).a) ∧
      (∀ W, Below w.heap.size w W → Calls Tryz.prog 87 #[.pointer (some ⟨gp, 0, none⟩), .int .i64 (j : Int)] W fun e w' => e = .returned (.bool ((frm x (i : Int) 2).kind == 2)) ∧ W = w') ∧
      (∀ W, Below w.heap.size w W → Calls Tryz.prog 112 #[.pointer (some ⟨gp, 0, none⟩), .int .i64 (j : Int)] W fun e w' => e = .returned (.bool ((frm x (i : Int) 2).kind == 2 && (frm x (i : Int) 2).a == 0)) ∧ W = w')) := fun hm => by
    obtain ⟨h0, h1⟩ := inp_rng hf (i := (i : Int)) (by omega) (by omega) hm
    obtain ⟨j, hj⟩ := Int.eq_ofNat_of_zero_le h0
    have hjn : j < x.nodes.length := by omega
    have e : frm x (i : Int) 2 = nodeAt x.nodes (j : Int) := by unfold frm; rw [hj]
    rw [e]
    obtain ⟨c0, c1, -, -⟩ := h.2 j hjn
    exact ⟨j, hj, hjn, c0, c1, fun W hW => l10Is_x W (h.below hW) hjn, fun W hW => l10Zero_x W (h.below hW) hjn⟩
  have HZ : sameI x (i : Int) = sameK (nodeAt x.nodes (i : Int)).kind (nodeAt x.nodes (i : Int)).a (inp x (i : Int) 0) (inp x (i : Int) 1) (inp x (i : Int) 2) (frm x (i : Int) 0) (frm x (i : Int) 1) := rfl
  rw [HZ]
  clear HZ
  have hc2 := h.1
  clear hr hok
  generalize (nodeAt x.nodes (i : Int)).kind = K at *
  generalize (nodeAt x.nodes (i : Int)).a = A at *
  generalize (nodeAt x.nodes (i : Int)).b = B at *
  generalize hN : (nodeAt x.nodes (i : Int)).src.length = N at *
  clear hN
  generalize inp x (i : Int) 0 = s0 at *
  generalize inp x (i : Int) 1 = s1 at *
  generalize inp x (i : Int) 2 = s2 at *
  generalize frm x (i : Int) 0 = f0 at *
  generalize frm x (i : Int) 1 = f1 at *
  subst h15
  have hN : N = 3 := by have : kAr ((15 : Int) - 1).toNat = 3 := rfl; omega
  clear har
  obtain ⟨b2, o2, rfl, hb2, r0, S1, S2⟩ := SC.out (by omega)
  have r1 := S1 (by omega)
  have r2 := S2 (by omega)
  clear S1 S2
  obtain ⟨j0, rfl, hj0, t0, u0, CI0, CZ0⟩ := J0.out (by omega)
  replace CI0 := Lib.hid CI0
  replace CZ0 := Lib.hid CZ0
  obtain ⟨j1, rfl, hj1, t1, u1, CI1, CZ1⟩ := J1.out (by omega)
  replace CI1 := Lib.hid CI1
  replace CZ1 := Lib.hid CZ1
  obtain ⟨j2, rfl, hj2, t2, u2, CI2, CZ2⟩ := J2.out (by omega)
  replace CI2 := Lib.hid CI2
  replace CZ2 := Lib.hid CZ2
  have hN0 : 0 < N := by omega
  have hN1 : 1 < N := by omega
  have hN2 : 2 < N := by omega
  clear hk hN SC J0 J1 J2
  cases h0 : isC f0
  case true =>
    have I0 := Lib.hid h0
    unfold isC at I0
    by_cases hp : 0 ≤ f0.a
    case pos =>
      rw [show sameK 15 A j0 j1 j2 f0 f1 = (j1 : Int) by simp [sameK, h0, hp]]
      have hd : decide (0 ≤ f0.a) = true := by simp [hp]
      clear h0
      go_enter Tryz.func113, Tryz.ntmps113
      go_wp2_with fail
      refine (CI0.out _ (Below.refl _ _)).mono ?_
      rintro e w' ⟨rfl, rfl⟩
      rw [I0.out]
      go_wp2_with fail
      go_quiet (fail)
      go_wp2_with fail
      go_ret
      exact ⟨rfl, below_drewN (Below.refl _ _) _⟩
    case neg =>
      have hs2 : sameK 15 A j0 j1 j2 f0 f1 = (j2 : Int) := by
        by_cases h12 : (j1 : Int) = j2
        · simp [sameK, h0, hp, h12]
        · simp [sameK, h0, hp, h12]
      rw [hs2]
      have hd : decide (0 ≤ f0.a) = false := by simp [hp]
      clear h0 hs2
      go_enter Tryz.func113, Tryz.ntmps113
      go_wp2_with fail
      refine (CI0.out _ (Below.refl _ _)).mono ?_
      rintro e w' ⟨rfl, rfl⟩
      rw [I0.out]
      go_wp2_with fail
      go_quiet (fail)
      go_wp2_with fail
      go_ret
      exact ⟨rfl, below_drewN (Below.refl _ _) _⟩
  have I0 := Lib.hid h0
  unfold isC at I0
  by_cases h12 : (j1 : Int) = j2
  case pos =>
    rw [show sameK 15 A j0 j1 j2 f0 f1 = (j1 : Int) by simp [sameK, h0, h12]]
    have hq : ((j1 : Int) == (j2 : Int)) = true := by rw [beq_iff_eq]; exact h12
    clear h0 h12
    go_enter Tryz.func113, Tryz.ntmps113
    go_wp2_with fail
    refine (CI0.out _ (Below.refl _ _)).mono ?_
    rintro e w' ⟨rfl, rfl⟩
    rw [I0.out]
    go_wp2_with fail
    go_quiet (fail)
    go_wp2_with fail
    go_ret
    exact ⟨rfl, below_drewN (Below.refl _ _) _⟩
  case neg =>
    rw [show sameK 15 A j0 j1 j2 f0 f1 = -1 by simp [sameK, h0, h12]]
    have hq : ((j1 : Int) == (j2 : Int)) = false := by rw [beq_eq_false_iff_ne]; exact h12
    clear h0 h12
    go_enter Tryz.func113, Tryz.ntmps113
    go_wp2_with fail
    refine (CI0.out _ (Below.refl _ _)).mono ?_
    rintro e w' ⟨rfl, rfl⟩
    rw [I0.out]
    go_wp2_with fail
    go_quiet (fail)
    go_wp2_with fail
    go_ret
    exact ⟨rfl, below_drewN (Below.refl _ _) _⟩
set_option maxHeartbeats 8000000 in
set_option maxRecDepth 100000 in
theorem l10Same_x {x : PatchD} {gp b o c2 i : Nat} (w : World) (h : SPat w gp b o c2 x) (hf : formedB x = true) (hi : i < x.nodes.length) :
    Calls Tryz.prog 86 #[.pointer (some ⟨gp, 0, none⟩), .int .i64 (i : Int)] w fun e w' => e = .returned (.int .i64 (sameI x (i : Int))) ∧ Below w.heap.size w w' := by
  have SEL := Lib.hid (fun h15 => l10Select_x w h hf hi h15)
  have hn := h.2 i hi
  have hok := nodeAt_ok hf (i := (i : Int)) (by omega) (by omega)
  obtain ⟨hk, har⟩ := nodeB_ar hok
  obtain ⟨y0, y1, y2, q, d, y3, hr⟩ := hn
  have hlen := hr.len
  unfold maxLen at hlen
  have SC : Hid (1 ≤ (nodeAt x.nodes (i : Int)).src.length → ∃ b2 o2, q = some ⟨b2, o2, none⟩ ∧ b2 < w.heap.size ∧ w.cell? ⟨b2, o2, none⟩ = some (.int .i64 (inp x (i : Int) 0)) ∧ (1 < (nodeAt x.nodes (i : Int)).src.length → w.cell? ⟨b2, o2 + 1, none⟩ = some (.int .i64 (inp x (i : Int) 1))) ∧ (2 < (nodeAt x.nodes (i : Int)).src.length → w.cell? ⟨b2, o2 + 2, none⟩ = some (.int .i64 (inp x (i : Int) 2)))) := fun h => by
    obtain ⟨b2, o2, e, hb, hc⟩ := hr.at0 h
    exact ⟨b2, o2, e, hb, hc 0 (by omega), fun h1 => hc 1 h1, fun h2 => hc 2 h2⟩
  have J0 : Hid (0 < (nodeAt x.nodes (i : Int)).src.length → ∃ j : Nat, inp x (i : Int) 0 = (j : Int) ∧ j < x.nodes.length ∧ w.cell? ⟨b, o + j * 4, none⟩ = some (.int .i64 (frm x (i : Int) 0).kind) ∧ w.cell? ⟨b, o + j * 4 + 1, none⟩ = some (.int .i64 (frm x (i : Int) 0).a) ∧
      (∀ W, Below w.heap.size w W → Calls Tryz.prog 87 #[.pointer (some ⟨gp, 0, none⟩), .int .i64 (j : Int)] W fun e w' => e = .returned (.bool ((frm x (i : Int) 0).kind == 2)) ∧ W = w') ∧
      (∀ W, Below w.heap.size w W → Calls Tryz.prog 112 #[.pointer (some ⟨gp, 0, none⟩), .int .i64 (j : Int)] W fun e w' => e = .returned (.bool ((frm x (i : Int) 0).kind == 2 && (frm x (i : Int) 0).a == 0)) ∧ W = w')) := fun hm => by
    obtain ⟨h0, h1⟩ := inp_rng hf (i := (i : Int)) (by omega) (by omega) hm
    obtain ⟨j, hj⟩ := Int.eq_ofNat_of_zero_le h0
    have hjn : j < x.nodes.length := by omega
    have e : frm x (i : Int) 0 = nodeAt x.nodes (j : Int) := by unfold frm; rw [hj]
    rw [e]
    obtain ⟨c0, c1, -, -⟩ := h.2 j hjn
    exact ⟨j, hj, hjn, c0, c1, fun W hW => l10Is_x W (h.below hW) hjn, fun W hW => l10Zero_x W (h.below hW) hjn⟩
  have J1 : Hid (1 < (nodeAt x.nodes (i : Int)).src.length → ∃ j : Nat, inp x (i : Int) 1 = (j : Int) ∧ j < x.nodes.length ∧ w.cell? ⟨b, o + j * 4, none⟩ = some (.int .i64 (frm x (i : Int) 1).kind) ∧ w.cell? ⟨b, o + j * 4 + 1, none⟩ = some (.int .i64 (frm x (i : Int) 1).a) ∧
      (∀ W, Below w.heap.size w W → Calls Tryz.prog 87 #[.pointer (some ⟨gp, 0, none⟩), .int .i64 (j : Int)] W fun e w' => e = .returned (.bool ((frm x (i : Int) 1).kind == 2)) ∧ W = w') ∧
      (∀ W, Below w.heap.size w W → Calls Tryz.prog 112 #[.pointer (some ⟨gp, 0, none⟩), .int .i64 (j : Int)] W fun e w' => e = .returned (.bool ((frm x (i : Int) 1).kind == 2 && (frm x (i : Int) 1).a == 0)) ∧ W = w')) := fun hm => by
    obtain ⟨h0, h1⟩ := inp_rng hf (i := (i : Int)) (by omega) (by omega) hm
    obtain ⟨j, hj⟩ := Int.eq_ofNat_of_zero_le h0
    have hjn : j < x.nodes.length := by omega
    have e : frm x (i : Int) 1 = nodeAt x.nodes (j : Int) := by unfold frm; rw [hj]
    rw [e]
    obtain ⟨c0, c1, -, -⟩ := h.2 j hjn
    exact ⟨j, hj, hjn, c0, c1, fun W hW => l10Is_x W (h.below hW) hjn, fun W hW => l10Zero_x W (h.below hW) hjn⟩
  have HZ : sameI x (i : Int) = sameK (nodeAt x.nodes (i : Int)).kind (nodeAt x.nodes (i : Int)).a (inp x (i : Int) 0) (inp x (i : Int) 1) (inp x (i : Int) 2) (frm x (i : Int) 0) (frm x (i : Int) 1) := rfl
  rw [HZ] at SEL ⊢
  clear HZ
  have hc2 := h.1
  clear hr hok
  generalize (nodeAt x.nodes (i : Int)).kind = K at *
  generalize (nodeAt x.nodes (i : Int)).a = A at *
  generalize (nodeAt x.nodes (i : Int)).b = B at *
  generalize hN : (nodeAt x.nodes (i : Int)).src.length = N at *
  clear hN
  generalize inp x (i : Int) 0 = s0 at *
  generalize inp x (i : Int) 1 = s1 at *
  generalize inp x (i : Int) 2 = s2 at *
  generalize frm x (i : Int) 0 = f0 at *
  generalize frm x (i : Int) 1 = f1 at *
  rcases kinds_of hk with rfl | rfl | rfl | rfl | rfl | rfl | rfl | rfl | rfl | rfl | rfl | rfl | rfl | rfl | rfl | rfl | rfl
  · have hN : N = 0 := by have : kAr ((1 : Int) - 1).toNat = 0 := rfl; omega
    clear har
    rw [show sameK 1 A s0 s1 s2 f0 f1 = -1 by simp [sameK]]
    clear hk hN SC J0 J1 SEL
    go_enter Tryz.func86, Tryz.ntmps86
    go_wp2_with fail
    go_ret
    exact ⟨rfl, Below.refl _ _⟩
  · have hN : N = 0 := by have : kAr ((2 : Int) - 1).toNat = 0 := rfl; omega
    clear har
    rw [show sameK 2 A s0 s1 s2 f0 f1 = -1 by simp [sameK]]
    clear hk hN SC J0 J1 SEL
    go_enter Tryz.func86, Tryz.ntmps86
    go_wp2_with fail
    go_ret
    exact ⟨rfl, Below.refl _ _⟩
  · have hN : N = 2 := by have : kAr ((3 : Int) - 1).toNat = 2 := rfl; omega
    clear har
    obtain ⟨b2, o2, rfl, hb2, r0, S1, S2⟩ := SC.out (by omega)
    have r1 := S1 (by omega)
    clear S1 S2
    obtain ⟨j0, rfl, hj0, t0, u0, CI0, CZ0⟩ := J0.out (by omega)
    replace CI0 := Lib.hid CI0
    replace CZ0 := Lib.hid CZ0
    obtain ⟨j1, rfl, hj1, t1, u1, CI1, CZ1⟩ := J1.out (by omega)
    replace CI1 := Lib.hid CI1
    replace CZ1 := Lib.hid CZ1
    have hN0 : 0 < N := by omega
    have hN1 : 1 < N := by omega
    clear hk hN SC J0 J1 SEL
    cases h0 : isCO f0 0
    case true =>
      rw [show sameK 3 A j0 j1 s2 f0 f1 = (j1 : Int) by simp [sameK, h0]]
      have I0 := Lib.hid h0
      unfold isCO at I0
      clear h0
      go_enter Tryz.func86, Tryz.ntmps86
      go_wp2_with fail
      refine (CZ0.out _ (Below.refl _ _)).mono ?_
      rintro e w' ⟨rfl, rfl⟩
      rw [I0.out]
      go_wp2_with fail
      go_ret
      exact ⟨rfl, Below.refl _ _⟩
    have I0 := Lib.hid h0
    unfold isCO at I0
    cases h1 : isCO f1 0
    case true =>
      rw [show sameK 3 A j0 j1 s2 f0 f1 = (j0 : Int) by simp [sameK, h0, h1]]
      have I1 := Lib.hid h1
      unfold isCO at I1
      clear h0 h1
      go_enter Tryz.func86, Tryz.ntmps86
      go_wp2_with fail
      refine (CZ0.out _ (Below.refl _ _)).mono ?_
      rintro e w' ⟨rfl, rfl⟩
      rw [I0.out]
      go_wp2_with fail
      refine (CZ1.out _ (Below.refl _ _)).mono ?_
      rintro e w' ⟨rfl, rfl⟩
      rw [I1.out]
      go_wp2_with fail
      go_ret
      exact ⟨rfl, Below.refl _ _⟩
    case false =>
      rw [show sameK 3 A j0 j1 s2 f0 f1 = -1 by simp [sameK, h0, h1]]
      have I1 := Lib.hid h1
      unfold isCO at I1
      clear h0 h1
      go_enter Tryz.func86, Tryz.ntmps86
      go_wp2_with fail
      refine (CZ0.out _ (Below.refl _ _)).mono ?_
      rintro e w' ⟨rfl, rfl⟩
      rw [I0.out]
      go_wp2_with fail
      refine (CZ1.out _ (Below.refl _ _)).mono ?_
      rintro e w' ⟨rfl, rfl⟩
      rw [I1.out]
      go_wp2_with fail
      go_ret
      exact ⟨rfl, Below.refl _ _⟩
  · have hN : N = 2 := by have : kAr ((4 : Int) - 1).toNat = 2 := rfl; omega
    clear har
    obtain ⟨b2, o2, rfl, hb2, r0, S1, S2⟩ := SC.out (by omega)
    have r1 := S1 (by omega)
    clear S1 S2
    obtain ⟨j1, rfl, hj1, t1, u1, CI1, CZ1⟩ := J1.out (by omega)
    replace CI1 := Lib.hid CI1
    replace CZ1 := Lib.hid CZ1
    have hN0 : 0 < N := by omega
    have hN1 : 1 < N := by omega
    clear hk hN SC J0 J1 SEL
    cases h1 : isCO f1 0
    case true =>
      rw [show sameK 4 A s0 j1 s2 f0 f1 = s0 by simp [sameK, h1]]
      have I1 := Lib.hid h1
      unfold isCO at I1
      clear h1
      go_enter Tryz.func86, Tryz.ntmps86
      go_wp2_with fail
      refine (CZ1.out _ (Below.refl _ _)).mono ?_
      rintro e w' ⟨rfl, rfl⟩
      rw [I1.out]
      go_wp2_with fail
      go_ret
      exact ⟨rfl, Below.refl _ _⟩
    case false =>
      rw [show sameK 4 A s0 j1 s2 f0 f1 = -1 by simp [sameK, h1]]
      have I1 := Lib.hid h1
      unfold isCO at I1
      clear h1
      go_enter Tryz.func86, Tryz.ntmps86
      go_wp2_with fail
      refine (CZ1.out _ (Below.refl _ _)).mono ?_
      rintro e w' ⟨rfl, rfl⟩
      rw [I1.out]
      go_wp2_with fail
      go_ret
      exact ⟨rfl, Below.refl _ _⟩
  · have hN : N = 1 := by have : kAr ((5 : Int) - 1).toNat = 1 := rfl; omega
    clear har
    obtain ⟨b2, o2, rfl, hb2, r0, S1, S2⟩ := SC.out (by omega)
    clear S1 S2
    have hN0 : 0 < N := by omega
    clear hk hN SC J0 J1 SEL
    by_cases hA : A = 1
    · rw [show sameK 5 A s0 s1 s2 f0 f1 = s0 by simp [sameK, hA]]
      have hq : (A == 1) = true := by rw [beq_iff_eq]; exact hA
      clear hA
      go_enter Tryz.func86, Tryz.ntmps86
      go_wp2_with fail
      go_ret
      exact ⟨rfl, Below.refl _ _⟩
    · rw [show sameK 5 A s0 s1 s2 f0 f1 = -1 by simp [sameK, hA]]
      have hq : (A == 1) = false := by rw [beq_eq_false_iff_ne]; exact hA
      clear hA
      go_enter Tryz.func86, Tryz.ntmps86
      go_wp2_with fail
      go_ret
      exact ⟨rfl, Below.refl _ _⟩
  · have hN : N = 1 := by have : kAr ((6 : Int) - 1).toNat = 1 := rfl; omega
    clear har
    rw [show sameK 6 A s0 s1 s2 f0 f1 = -1 by simp [sameK]]
    clear hk hN SC J0 J1 SEL
    go_enter Tryz.func86, Tryz.ntmps86
    go_wp2_with fail
    go_ret
    exact ⟨rfl, Below.refl _ _⟩
  · have hN : N = 1 := by have : kAr ((7 : Int) - 1).toNat = 1 := rfl; omega
    clear har
    rw [show sameK 7 A s0 s1 s2 f0 f1 = -1 by simp [sameK]]
    clear hk hN SC J0 J1 SEL
    go_enter Tryz.func86, Tryz.ntmps86
    go_wp2_with fail
    go_ret
    exact ⟨rfl, Below.refl _ _⟩
  · have hN : N = 1 := by have : kAr ((8 : Int) - 1).toNat = 1 := rfl; omega
    clear har
    rw [show sameK 8 A s0 s1 s2 f0 f1 = -1 by simp [sameK]]
    clear hk hN SC J0 J1 SEL
    go_enter Tryz.func86, Tryz.ntmps86
    go_wp2_with fail
    go_ret
    exact ⟨rfl, Below.refl _ _⟩
  · have hN : N = 2 := by have : kAr ((9 : Int) - 1).toNat = 2 := rfl; omega
    clear har
    rw [show sameK 9 A s0 s1 s2 f0 f1 = -1 by simp [sameK]]
    clear hk hN SC J0 J1 SEL
    go_enter Tryz.func86, Tryz.ntmps86
    go_wp2_with fail
    go_ret
    exact ⟨rfl, Below.refl _ _⟩
  · have hN : N = 1 := by have : kAr ((10 : Int) - 1).toNat = 1 := rfl; omega
    clear har
    obtain ⟨b2, o2, rfl, hb2, r0, S1, S2⟩ := SC.out (by omega)
    clear S1 S2
    have hN0 : 0 < N := by omega
    clear hk hN SC J0 J1 SEL
    by_cases hA : A = 0
    · rw [show sameK 10 A s0 s1 s2 f0 f1 = s0 by simp [sameK, hA]]
      have hq : (A == 0) = true := by rw [beq_iff_eq]; exact hA
      clear hA
      go_enter Tryz.func86, Tryz.ntmps86
      go_wp2_with fail
      go_ret
      exact ⟨rfl, Below.refl _ _⟩
    · rw [show sameK 10 A s0 s1 s2 f0 f1 = -1 by simp [sameK, hA]]
      have hq : (A == 0) = false := by rw [beq_eq_false_iff_ne]; exact hA
      clear hA
      go_enter Tryz.func86, Tryz.ntmps86
      go_wp2_with fail
      go_ret
      exact ⟨rfl, Below.refl _ _⟩
  · have hN : N = 1 := by have : kAr ((11 : Int) - 1).toNat = 1 := rfl; omega
    clear har
    rw [show sameK 11 A s0 s1 s2 f0 f1 = -1 by simp [sameK]]
    clear hk hN SC J0 J1 SEL
    go_enter Tryz.func86, Tryz.ntmps86
    go_wp2_with fail
    go_ret
    exact ⟨rfl, Below.refl _ _⟩
  · have hN : N = 1 := by have : kAr ((12 : Int) - 1).toNat = 1 := rfl; omega
    clear har
    rw [show sameK 12 A s0 s1 s2 f0 f1 = -1 by simp [sameK]]
    clear hk hN SC J0 J1 SEL
    go_enter Tryz.func86, Tryz.ntmps86
    go_wp2_with fail
    go_ret
    exact ⟨rfl, Below.refl _ _⟩
  · have hN : N = 1 := by have : kAr ((13 : Int) - 1).toNat = 1 := rfl; omega
    clear har
    rw [show sameK 13 A s0 s1 s2 f0 f1 = -1 by simp [sameK]]
    clear hk hN SC J0 J1 SEL
    go_enter Tryz.func86, Tryz.ntmps86
    go_wp2_with fail
    go_ret
    exact ⟨rfl, Below.refl _ _⟩
  · have hN : N = 0 := by have : kAr ((14 : Int) - 1).toNat = 0 := rfl; omega
    clear har
    rw [show sameK 14 A s0 s1 s2 f0 f1 = -1 by simp [sameK]]
    clear hk hN SC J0 J1 SEL
    go_enter Tryz.func86, Tryz.ntmps86
    go_wp2_with fail
    go_ret
    exact ⟨rfl, Below.refl _ _⟩
  · have hN : N = 3 := by have : kAr ((15 : Int) - 1).toNat = 3 := rfl; omega
    clear har
    have SL := Lib.hid (SEL.out rfl)
    generalize sameK 15 A s0 s1 s2 f0 f1 = R at SL ⊢
    clear hk hN SC J0 J1 SEL
    go_enter Tryz.func86, Tryz.ntmps86
    go_wp2_with (go_at_call 113; refine SL.out.mono ?_; rintro e W1 ⟨rfl, hb1⟩)
    go_ret
    exact ⟨rfl, hb1⟩
  · have hN : N = 2 := by have : kAr ((16 : Int) - 1).toNat = 2 := rfl; omega
    clear har
    obtain ⟨b2, o2, rfl, hb2, r0, S1, S2⟩ := SC.out (by omega)
    have r1 := S1 (by omega)
    clear S1 S2
    obtain ⟨j1, rfl, hj1, t1, u1, CI1, CZ1⟩ := J1.out (by omega)
    replace CI1 := Lib.hid CI1
    replace CZ1 := Lib.hid CZ1
    have hN0 : 0 < N := by omega
    have hN1 : 1 < N := by omega
    clear hk hN SC J0 J1 SEL
    cases h1 : isC f1
    case false =>
      rw [show sameK 16 A s0 j1 s2 f0 f1 = -1 by simp [sameK, h1]]
      have I1 := Lib.hid h1
      unfold isC at I1
      clear h1
      have IQ := Lib.hid (fun n => CI1.out (w.drewN n) (below_drewN (Below.refl _ _) n))
      rw [I1.out] at IQ
      go_enter Tryz.func86, Tryz.ntmps86
      go_wp2_with fail
      go_quiet ((go_at_call 87; exact Calls.quiet_of_same (Calls.turn (IQ.out _))))
      go_wp2_with fail
      go_ret
      exact ⟨rfl, below_drewN (Below.refl _ _) _⟩
    have I1 := Lib.hid h1
    unfold isC at I1
    by_cases hp : 0 < f1.a
    case pos =>
      rw [show sameK 16 A s0 j1 s2 f0 f1 = s0 by simp [sameK, h1, hp]]
      have hd : decide (0 < f1.a) = true := by simp [hp]
      clear h1
      have IQ := Lib.hid (fun n => CI1.out (w.drewN n) (below_drewN (Below.refl _ _) n))
      rw [I1.out] at IQ
      go_enter Tryz.func86, Tryz.ntmps86
      go_wp2_with fail
      go_quiet ((go_at_call 87; exact Calls.quiet_of_same (Calls.turn (IQ.out _))))
      go_wp2_with fail
      go_ret
      exact ⟨rfl, below_drewN (Below.refl _ _) _⟩
    case neg =>
      rw [show sameK 16 A s0 j1 s2 f0 f1 = -1 by simp [sameK, h1, hp]]
      have hd : decide (0 < f1.a) = false := by simp [hp]
      clear h1
      have IQ := Lib.hid (fun n => CI1.out (w.drewN n) (below_drewN (Below.refl _ _) n))
      rw [I1.out] at IQ
      go_enter Tryz.func86, Tryz.ntmps86
      go_wp2_with fail
      go_quiet ((go_at_call 87; exact Calls.quiet_of_same (Calls.turn (IQ.out _))))
      go_wp2_with fail
      go_ret
      exact ⟨rfl, below_drewN (Below.refl _ _) _⟩
  · have hN : N = 1 := by have : kAr ((17 : Int) - 1).toNat = 1 := rfl; omega
    clear har
    rw [show sameK 17 A s0 s1 s2 f0 f1 = -1 by simp [sameK]]
    clear hk hN SC J0 J1 SEL
    go_enter Tryz.func86, Tryz.ntmps86
    go_wp2_with fail
    go_ret
    exact ⟨rfl, Below.refl _ _⟩
end Go.Proofs.YtcfhcmgmkhfjjaaGreat
