/-
  Determinants: helper contracts for the law's walk.
-/
import Derived.Test.YtmfahnkcfcmhiaaDetD
namespace Go.Proofs.Ytmfahnkcfcmhiaa
open Go.ChangeShapes Go.WideShapes Go.ChangeAt Go.RowKit
set_option linter.unusedVariables false
set_option linter.unusedSimpArgs false

theorem wrapMul_any (a b : Int) (w : World) :
    Calls Try.prog 9 #[.int .i64 a, .int .i64 b] w fun e w' => e = .returned (.int .i64 (smp (a * b))) ∧ w = w' := by
  go_enter Try.func9, Try.ntmps9
  go_wp2_with (go_at_call 24; refine (l01Mul_any _ _ _).mono ?_; rintro e w' ⟨rfl, rfl⟩)
  go_ret
  exact ⟨rfl, rfl⟩
theorem wrapAdd_any (a b : Int) (w : World) :
    Calls Try.prog 11 #[.int .i64 a, .int .i64 b] w fun e w' => e = .returned (.int .i64 (smp (a + b))) ∧ w = w' := by
  go_enter Try.func11, Try.ntmps11
  go_wp2_with (go_at_call 25; refine (l01Add_any _ _ _).mono ?_; rintro e w' ⟨rfl, rfl⟩)
  go_ret
  exact ⟨rfl, rfl⟩
theorem v8Zeros_any {p : Option Addr} {c : Nat} {xs : List Int} (w : World) (h : RdI w p xs) (hz : ∀ x ∈ xs, x = 0) (hn : xs.length ≤ 1048576) :
    Calls Try.prog 12 #[.slice p xs.length c] w fun e w' => e = .returned (.bool true) ∧ w = w' := by
  have HZ := Lib.hid hz
  clear hz
  go_enter Try.func12, Try.ntmps12
  go_wp2_with fail
  go_loop [3] (fun i => ∃ k : Nat, k ≤ xs.length ∧ i = .int .i64 k) (fun i => xs.length - (intOf i).toNat)
  case atStart => exact ⟨0, Nat.zero_le _, rfl⟩
  case round =>
    obtain ⟨k, hk, rfl⟩ := hrel
    by_cases hlt : k < xs.length
    · obtain ⟨b, o, rfl, hb1, hc⟩ := h.pos hlt
      have hck := hc k hlt
      rw [HZ.out _ (List.getElem_mem hlt)] at hck
      clear hc
      go_wp2_with fail
      go_round
      case rel => exact ⟨k + 1, by omega, by go_num⟩
      case measure => simp [intOf] <;> omega
    · obtain rfl : k = xs.length := by omega
      go_wp2_with fail
      go_ret
      exact ⟨rfl, rfl⟩
theorem OwnIs.setRow {B : Nat} {w w1 : World} {L : List Value} {xss : List (List Int)} (h : OwnIs B w L xss) (hd : Dis L) {k : Nat} (hk : k < L.length) {ys : List Int} (hu : OwnI B w1 L[k] ys) (hf : Off (fun b => L[k].ownBlock = some b) w w1) : OwnIs B w1 L (xss.set k ys) := by
  refine ⟨by rw [List.length_set]; exact h.1, fun i hi => ?_⟩
  have hi' : i < xss.length := by rw [List.length_set] at hi; exact hi
  have hiL : i < L.length := by rw [h.1]; exact hi'
  refine ⟨L[i], List.getElem?_eq_getElem hiL, ?_⟩
  rw [List.getElem_set]
  by_cases e : k = i
  · subst e; rw [if_pos rfl]; exact hu
  · rw [if_neg e]
    obtain ⟨_, ho⟩ := h.at_ hi'
    exact ho.keep fun j hj => hf.block j (ho.lt hj).2 fun hk' => hd.at_ hk hiL e hk' hj
/-- the places of a cell of a matrix of the call's own -/
theorem OwnII.storing {B : Nat} {w : World} {v : Value} {xss : List (List Int)} {L : List Value} (h : OwnII B w v xss L) {i j : Nat} (hi : i < xss.length) (hj : j < xss[i].length) :
    ∃ q c g cp, v = .slice (some ⟨q, 0, none⟩) xss.length c ∧ w.cell? ⟨q, i, none⟩ = some (.slice (some ⟨g, 0, none⟩) xss[i].length cp) ∧ w.cell? ⟨g, j, none⟩ = some (.int .i64 xss[i][j]) ∧
      w.frozen? ⟨g, j, none⟩ = false ∧ B ≤ g ∧ g < w.heap.size ∧ ∀ y, OwnII B (w.setCell ⟨g, j, none⟩ (.int .i64 y)) v (xss.set i (xss[i].set j y)) L := by
  obtain ⟨h1, h2, h3⟩ := h
  obtain ⟨hL, ho⟩ := h2.at_ hi
  rcases ho.cases with ⟨-, e⟩ | ⟨g, cp, e, hB, hlt, -, -⟩
  · rw [e] at hj; simp at hj
  have ho2 := ho
  rw [e] at ho2
  obtain ⟨-, -, -, c1, c2, c3⟩ := ho2.storing hj
  rcases h1.cases with ⟨-, e2⟩ | ⟨q, c, e2, -, -, -, hr⟩
  · rw [e2] at hL; simp at hL
  obtain ⟨b, o, e3, -, hc⟩ := hr.pos hL
  simp only [Option.some.injEq, Addr.mk.injEq, and_true] at e3
  obtain ⟨rfl, rfl⟩ := e3
  have hci := hc i hL
  rw [Nat.zero_add, e] at hci
  refine ⟨q, c, g, cp, by rw [e2, h2.1], hci, c1, c2, hB, hlt, fun y => ⟨?_, ?_, h3⟩⟩
  · refine h1.keep fun k hk => Below.heap_setCell _ _ _ _ fun e' => ?_
    exact h1.off (by decide) h2 hk ⟨L[i], List.getElem_mem hL, by rw [e, ← show k = g from e']; simp [Value.ownBlock, show k = g from e']⟩
  · refine h2.setRow h3 hL (by rw [e]; exact c3 y) ⟨rfl, rfl, rfl, by simp [World.setCell], fun k hk hs => Below.heap_setCell _ _ _ _ fun e' => hs ?_⟩
    show L[i].ownBlock = some k
    rw [e, show k = g from e']; rfl
theorem hornD_length (a t : List (List Int)) (c : Int) (m : Nat) : (hornD a t c m).length = a.length := by simp [hornD]
theorem hornD_row (a t : List (List Int)) (c : Int) (m i : Nat) (h : i < (hornD a t c m).length) : (hornD a t c m)[i].length = a.length := by simp [hornD]
theorem hornD_get (a t : List (List Int)) (c : Int) (m : Nat) (h : m < (hornD a t c m).length) (h2 : m < (hornD a t c m)[m].length) : (hornD a t c m)[m][m] = dotN (t.getD m []) (colL a m) a.length := by
  simp [hornD]
theorem hornD_set (a t : List (List Int)) (c : Int) (m : Nat) (h : m < (hornD a t c m).length) : (hornD a t c m).set m ((hornD a t c m)[m].set m (smp (dotN (t.getD m []) (colL a m) a.length + c))) = hornD a t c (m + 1) := by
  have hm : m < a.length := by rw [hornD_length] at h; exact h
  apply List.ext_getElem
  · simp [hornD]
  intro i h1 h2
  have hi : i < a.length := by rw [hornD_length] at h2; exact h2
  rw [List.getElem_set]
  by_cases e : m = i
  · subst e
    rw [if_pos rfl]
    apply List.ext_getElem
    · simp [hornD]
    intro j g1 g2
    rw [List.getElem_set]
    by_cases e2 : m = j
    · subst e2
      rw [if_pos rfl]
      simp [hornD]
    · rw [if_neg e2]
      simp [hornD, e2]
  · rw [if_neg e]
    apply List.ext_getElem
    · simp [hornD]
    intro j g1 g2
    simp only [hornD, List.getElem_map, List.getElem_range]
    by_cases e2 : i = j ∧ i < m
    · rw [if_pos e2, if_pos ⟨e2.1, by omega⟩]
    · rw [if_neg e2, if_neg (fun e3 => e2 ⟨e3.1, by omega⟩)]
theorem chpRes_get {a : List (List Int)} (ha : matB a = true) {m k : Nat} (h : m + k = a.length) (hk : k < (chpRes a).length) : (chpRes a)[k] = (chp a a.length).getD m 0 := by
  have l := chp_length a a.length
  rw [List.getD_eq_getElem?_getD, List.getElem?_eq_getElem (by omega)]
  simp only [chpRes, ha, if_true, List.getElem_reverse, Option.getD_some]
  congr 1
  omega
end Go.Proofs.Ytmfahnkcfcmhiaa
