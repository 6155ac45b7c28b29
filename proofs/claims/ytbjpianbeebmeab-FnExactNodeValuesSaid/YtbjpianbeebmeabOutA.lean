/-
  The output and the next state of a node, in plain Lean; the reference's output for all kinds.
-/
import Derived.Test.YtbjpianbeebmeabOut
import Derived.Test.YtbjpianbeebmeabNode3
import Derived.Test.YtbjpianbeebmeabPatM
namespace Go.Proofs.Ytbjpianbeebmeab
open Go.ChangeShapes Go.WideShapes Go.ChangeAt Go.RowKit Go.Sort
set_option linter.unusedVariables false

/-- the sample of a table that x chooses -/
def lookP (t : List Int) (x : Int) : Int := t.getD (((t.length : Int) * (x % 4294967296)) / 4294967296).toNat 0
def outK (k : Nat) (A : Int) (tb : List (List Int)) (xs ss : List Int) : Int :=
  match k with
  | 1 => xs.getD 0 0
  | 2 => A
  | 3 => smp (xs.getD 0 0 + xs.getD 1 0)
  | 4 => smp (xs.getD 0 0 - xs.getD 1 0)
  | 5 => smp (A * xs.getD 0 0)
  | 6 => ss.getD 0 0
  | 7 => smp (ss.getD 0 0 + xs.getD 0 0)
  | 8 => smp (xs.getD 0 0 - ss.getD 0 0)
  | 9 => smp (xs.getD 0 0 * xs.getD 1 0)
  | 10 => xs.getD 0 0 / 2 ^ A.toNat
  | 11 => max (-A) (min (xs.getD 0 0) A)
  | 12 => ss.getD 0 0
  | 13 => lookP (tb.getD A.toNat []) (xs.getD 0 0)
  | 14 => ss.getD 0 0
  | 15 => if 0 ≤ xs.getD 0 0 then xs.getD 1 0 else xs.getD 2 0
  | 16 => if 0 < xs.getD 1 0 then xs.getD 0 0 else ss.getD 0 0
  | _ => smp (xs.getD 0 0 + smp (A * ss.getD 0 0))
/-- the output of a node -/
def outP (x : NodeD) (tb : List (List Int)) (xs ss : List Int) : Int := outK x.kind.toNat x.a tb xs ss
def nextK (k : Nat) (xs ss : List Int) (y : Int) : List Int :=
  match k with
  | 6 => ss.drop 1 ++ [xs.getD 0 0]
  | 17 => ss.drop 1 ++ [y]
  | 7 => [y]
  | 16 => [y]
  | 8 => [xs.getD 0 0]
  | 12 => [smp (ss.getD 0 0 + xs.getD 0 0)]
  | 14 => [noiseP (ss.getD 0 0)]
  | _ => []
/-- the next state of a node with the output y -/
def nextP (x : NodeD) (xs ss : List Int) (y : Int) : List Int := nextK x.kind.toNat xs ss y
/-- so many samples a node gets -/
def inN (x : NodeD) : Int := if x.kind = 1 then 1 else kAr (x.kind - 1).toNat
/-- what the output asks of its arguments -/
structure OutOk (x : NodeD) (tb : List (List Int)) (xs ss : List Int) : Prop where
  k : inB x.kind 1 17 = true
  n : (xs.length : Int) = inN x
  s : x.kind = 6 ∨ x.kind = 7 ∨ x.kind = 8 ∨ x.kind = 12 ∨ x.kind = 14 ∨ x.kind = 16 ∨ x.kind = 17 → 1 ≤ ss.length
  smps : ∀ y ∈ xs, -2147483648 ≤ y ∧ y ≤ 2147483647
  clip : x.kind = 11 → 0 ≤ x.a ∧ x.a ≤ 2147483647
  shift : x.kind = 10 → 0 ≤ x.a ∧ x.a ≤ 31
  tab : x.kind = 13 → 0 ≤ x.a ∧ x.a < (tb.length : Int) ∧ ∀ t ∈ tb, 1 ≤ t.length ∧ t.length ≤ 16
theorem RdI.at0 {w : World} {p : Option Addr} {xs : List Int} (h : RdI w p xs) (h1 : 1 ≤ xs.length) : ∃ b o, p = some ⟨b, o, none⟩ ∧ b < w.heap.size ∧ ∀ i, i < xs.length → w.cell? ⟨b, o + i, none⟩ = some (.int .i64 (xs.getD i 0)) := by
  obtain ⟨b, o, e, hb, hc⟩ := h.pos (k := 0) (by omega)
  refine ⟨b, o, e, hb, fun i hi => ?_⟩
  rw [hc i hi, List.getD_eq_getElem?_getD, List.getElem?_eq_getElem hi]
  rfl
theorem getD_mem {xs : List Int} {i : Nat} (h : i < xs.length) : xs.getD i 0 ∈ xs := by
  rw [List.getD_eq_getElem?_getD, List.getElem?_eq_getElem h]
  exact List.getElem_mem h
theorem RdII.at0 {w : World} {p : Option Addr} {xss : List (List Int)} (h : RdII w p xss) {k : Nat} (hk : k < xss.length) : ∃ b o q c, p = some ⟨b, o, none⟩ ∧ b < w.heap.size ∧ w.cell? ⟨b, o + k, none⟩ = some (.slice q (xss.getD k []).length c) ∧ RdI w q (xss.getD k []) := by
  obtain ⟨b, o, e, hb, hc⟩ := h.pos hk
  obtain ⟨q, c, h1, h2⟩ := hc k hk
  have e2 : xss.getD k [] = xss[k] := by rw [List.getD_eq_getElem?_getD, List.getElem?_eq_getElem hk]; rfl
  rw [← e2] at h1 h2
  exact ⟨b, o, q, c, e, hb, h1, h2⟩
/-- the place in a table -/
def lookI (n : Nat) (x : Int) : Int := ((n : Int) * (x % 4294967296)) / 4294967296
theorem lookI_in {n : Nat} {x : Int} (h : 1 ≤ n) : 0 ≤ lookI n x ∧ lookI n x < n := by
  have h1 : 0 ≤ x % 4294967296 := Int.emod_nonneg _ (by decide)
  have h2 : x % 4294967296 < 4294967296 := Int.emod_lt_of_pos _ (by decide)
  have h3 : 0 ≤ (n : Int) * (x % 4294967296) := Int.mul_nonneg (by omega) h1
  have h4 : (n : Int) * (x % 4294967296) < (n : Int) * 4294967296 := Int.mul_lt_mul_of_pos_left h2 (by omega)
  unfold lookI
  generalize (n : Int) * (x % 4294967296) = m at *
  omega
theorem l06Look_any {p : Option Addr} {c : Nat} {t : List Int} (x : Int) (w : World) (h : RdI w p t) (h1 : 1 ≤ t.length) (h2 : t.length ≤ 16) :
    Calls Try.prog 60 #[.slice p t.length c, .int .i64 x] w fun e w' => e = .returned (.int .i64 (lookP t x)) ∧ w = w' := by
  obtain ⟨b, o, rfl, hb, hc⟩ := h.at0 h1
  have hi := lookI_in (x := x) h1
  have hr : 0 ≤ x % 4294967296 ∧ x % 4294967296 ≤ 4294967295 := by omega
  have ha := bits_and32 x
  obtain ⟨j, hj⟩ := Int.eq_ofNat_of_zero_le hi.1
  have hz := hc j (by omega)
  have HL : Hid (lookP t x = t.getD j 0) := by
    unfold Hid lookP
    rw [show ((t.length : Int) * (x % 4294967296)) / 4294967296 = lookI t.length x from rfl, hj]; rfl
  generalize lookP t x = R at HL ⊢
  have HJ : Hid (((t.length : Int) * (x % 4294967296)) / 4294967296 = (j : Int)) := hj
  have hj2 : j < t.length := by omega
  have hp : 0 ≤ (t.length : Int) * (x % 4294967296) ∧ (t.length : Int) * (x % 4294967296) ≤ 68719476720 := by
    refine ⟨Int.mul_nonneg (by omega) hr.1, ?_⟩
    have := Int.mul_le_mul (show (t.length : Int) ≤ 16 by omega) hr.2 hr.1 (by omega)
    omega
  generalize t.getD j 0 = y at hz HL
  generalize t.length = n at *
  clear hc hi hj h
  generalize x % 4294967296 = u at *
  have hw : IntKind.i64.wrap ((n : Int) * u) = (n : Int) * u := IntWalk.i64_in _ (by omega)
  generalize hm : (n : Int) * u = m at *
  have hw2 : m / 4294967296 = (j : Int) := HJ.out
  clear HJ
  go_enter Try.func60, Try.ntmps60
  go_wp2_with fail
  go_ret
  obtain rfl := HL.out
  exact ⟨rfl, rfl⟩
set_option maxHeartbeats 4000000 in
theorem l06Out_13 {b o : Nat} {vs : Value} {ba oa na ca bt ot nt ct j : Nat} {q : Option Addr} {c : Nat} {t : List Int} {x0 : Int} (w : World) (c0 : w.cell? ⟨b, o, none⟩ = some (.int .i64 13)) (c1 : w.cell? ⟨b, o + 1, none⟩ = some (.int .i64 (j : Int)))
    (hx0 : w.cell? ⟨ba, oa, none⟩ = some (.int .i64 x0)) (la : 1 ≤ na) (hj : j < nt) (ht : w.cell? ⟨bt, ot + j, none⟩ = some (.slice q t.length c)) (hr : RdI w q t) (h1 : 1 ≤ t.length) (h2 : t.length ≤ 16) :
    Calls Try.prog 39 #[.pointer (some ⟨b, o, none⟩), .slice (some ⟨bt, ot, none⟩) nt ct, .slice (some ⟨ba, oa, none⟩) na ca, vs] w fun e w' => e = .returned (.int .i64 (lookP t x0)) ∧ Below w.heap.size w w' := by
  have LK : Hid (∀ W, Below w.heap.size w W → Calls Try.prog 60 #[.slice q t.length c, .int .i64 x0] W fun e w' => e = .returned (.int .i64 (lookP t x0)) ∧ W = w') := fun W hW => l06Look_any x0 W (hr.below hW) h1 h2
  clear hr
  go_enter Try.func39, Try.ntmps39
  go_wp2_with fail
  go_quiet ((go_at_call 60; exact Calls.quiet_of_same (Calls.turn (LK.out _ (below_drewN (Below.refl _ _) _)))))
  go_wp2_with fail
  go_ret
  exact ⟨rfl, below_drewN (Below.refl _ _) _⟩
theorem l06Out_any {b o : Nat} {x : NodeD} {tb : List (List Int)} {xs ss : List Int} {pt px ps : Option Addr} {ct cx cs : Nat} (w : World) (h : PNode w b o x) (ht : RdII w pt tb) (hx : RdI w px xs) (hs : RdI w ps ss) (ok : OutOk x tb xs ss) :
    Calls Try.prog 39 #[.pointer (some ⟨b, o, none⟩), .slice pt tb.length ct, .slice px xs.length cx, .slice ps ss.length cs] w fun e w' => e = .returned (.int .i64 (outP x tb xs ss)) ∧ Below w.heap.size w w' := by
  obtain ⟨k, A, B, src⟩ := x
  obtain ⟨c0, c1, -, -⟩ := h
  obtain ⟨hk, hn, hst, hsm, hcl, hsh, htb⟩ := ok
  unfold outP
  simp only at *
  rcases kinds_of hk with rfl | rfl | rfl | rfl | rfl | rfl | rfl | rfl | rfl | rfl | rfl | rfl | rfl | rfl | rfl | rfl | rfl
  · have l : xs.length = 1 := by have : inN ⟨1, A, B, src⟩ = 1 := rfl; omega
    obtain ⟨ba, oa, rfl, -, ha⟩ := hx.at0 (by omega)
    exact l06Out_1 w c0 (ha 0 (by omega)) (by omega)
  · exact l06Out_2 w c0 c1
  · have l : xs.length = 2 := by have : inN ⟨3, A, B, src⟩ = 2 := rfl; omega
    obtain ⟨ba, oa, rfl, -, ha⟩ := hx.at0 (by omega)
    exact l06Out_3 w c0 (ha 0 (by omega)) (ha 1 (by omega)) (by omega)
  · have l : xs.length = 2 := by have : inN ⟨4, A, B, src⟩ = 2 := rfl; omega
    obtain ⟨ba, oa, rfl, -, ha⟩ := hx.at0 (by omega)
    exact l06Out_4 w c0 (ha 0 (by omega)) (ha 1 (by omega)) (by omega)
  · have l : xs.length = 1 := by have : inN ⟨5, A, B, src⟩ = 1 := rfl; omega
    obtain ⟨ba, oa, rfl, -, ha⟩ := hx.at0 (by omega)
    exact l06Out_5 w c0 c1 (ha 0 (by omega)) (by omega)
  · have l2 := hst (by simp)
    obtain ⟨bs, os, rfl, -, h2⟩ := hs.at0 l2
    exact l06Out_6 w c0 (h2 0 (by omega)) (by omega)
  · have l : xs.length = 1 := by have : inN ⟨7, A, B, src⟩ = 1 := rfl; omega
    obtain ⟨ba, oa, rfl, -, ha⟩ := hx.at0 (by omega)
    have l2 := hst (by simp)
    obtain ⟨bs, os, rfl, -, h2⟩ := hs.at0 l2
    exact l06Out_7 w c0 (ha 0 (by omega)) (h2 0 (by omega)) (by omega) (by omega)
  · have l : xs.length = 1 := by have : inN ⟨8, A, B, src⟩ = 1 := rfl; omega
    obtain ⟨ba, oa, rfl, -, ha⟩ := hx.at0 (by omega)
    have l2 := hst (by simp)
    obtain ⟨bs, os, rfl, -, h2⟩ := hs.at0 l2
    exact l06Out_8 w c0 (ha 0 (by omega)) (h2 0 (by omega)) (by omega) (by omega)
  · have l : xs.length = 2 := by have : inN ⟨9, A, B, src⟩ = 2 := rfl; omega
    obtain ⟨ba, oa, rfl, -, ha⟩ := hx.at0 (by omega)
    exact l06Out_9 w c0 (ha 0 (by omega)) (ha 1 (by omega)) (by omega)
  · have l : xs.length = 1 := by have : inN ⟨10, A, B, src⟩ = 1 := rfl; omega
    obtain ⟨ba, oa, rfl, -, ha⟩ := hx.at0 (by omega)
    exact l06Out_10 w c0 c1 (ha 0 (by omega)) (by omega) (hsh rfl) (hsm _ (getD_mem (by omega)))
  · have l : xs.length = 1 := by have : inN ⟨11, A, B, src⟩ = 1 := rfl; omega
    obtain ⟨ba, oa, rfl, -, ha⟩ := hx.at0 (by omega)
    exact l06Out_11 w c0 c1 (ha 0 (by omega)) (by omega) (hcl rfl)
  · have l2 := hst (by simp)
    obtain ⟨bs, os, rfl, -, h2⟩ := hs.at0 l2
    exact l06Out_12 w c0 (h2 0 (by omega)) (by omega)
  · have l : xs.length = 1 := by have : inN ⟨13, A, B, src⟩ = 1 := rfl; omega
    obtain ⟨ba, oa, rfl, -, ha⟩ := hx.at0 (by omega)
    obtain ⟨a0, a1, at_⟩ := htb rfl
    obtain ⟨j, rfl⟩ := Int.eq_ofNat_of_zero_le a0
    obtain ⟨bt, ot, q, c, rfl, -, hc, hr⟩ := ht.at0 (k := j) (by omega)
    have hm : tb.getD j [] ∈ tb := by
      rw [List.getD_eq_getElem?_getD, List.getElem?_eq_getElem (by omega)]
      exact List.getElem_mem _
    obtain ⟨t1, t2⟩ := at_ _ hm
    exact l06Out_13 w c0 c1 (ha 0 (by omega)) (by omega) (by omega) hc hr t1 t2
  · have l2 := hst (by simp)
    obtain ⟨bs, os, rfl, -, h2⟩ := hs.at0 l2
    exact l06Out_14 w c0 (h2 0 (by omega)) (by omega)
  · have l : xs.length = 3 := by have : inN ⟨15, A, B, src⟩ = 3 := rfl; omega
    obtain ⟨ba, oa, rfl, -, ha⟩ := hx.at0 (by omega)
    by_cases hp : 0 ≤ xs.getD 0 0
    · have e : outK (15 : Int).toNat A tb xs ss = xs.getD 1 0 := if_pos hp
      rw [e]
      exact l06Out_15_pos w c0 (ha 0 (by omega)) (ha 1 (by omega)) (by omega) hp
    · have e : outK (15 : Int).toNat A tb xs ss = xs.getD 2 0 := if_neg hp
      rw [e]
      exact l06Out_15_neg w c0 (ha 0 (by omega)) (ha 2 (by omega)) (by omega) hp
  · have l : xs.length = 2 := by have : inN ⟨16, A, B, src⟩ = 2 := rfl; omega
    obtain ⟨ba, oa, rfl, -, ha⟩ := hx.at0 (by omega)
    have l2 := hst (by simp)
    obtain ⟨bs, os, rfl, -, h2⟩ := hs.at0 l2
    by_cases hp : 0 < xs.getD 1 0
    · have e : outK (16 : Int).toNat A tb xs ss = xs.getD 0 0 := if_pos hp
      rw [e]
      exact l06Out_16_pos w c0 (ha 0 (by omega)) (ha 1 (by omega)) (by omega) hp
    · have e : outK (16 : Int).toNat A tb xs ss = ss.getD 0 0 := if_neg hp
      rw [e]
      exact l06Out_16_neg w c0 (ha 1 (by omega)) (h2 0 (by omega)) (by omega) (by omega) hp
  · have l : xs.length = 1 := by have : inN ⟨17, A, B, src⟩ = 1 := rfl; omega
    obtain ⟨ba, oa, rfl, -, ha⟩ := hx.at0 (by omega)
    have l2 := hst (by simp)
    obtain ⟨bs, os, rfl, -, h2⟩ := hs.at0 l2
    exact l06Out_17 w c0 c1 (ha 0 (by omega)) (h2 0 (by omega)) (by omega) (by omega)
end Go.Proofs.Ytbjpianbeebmeab
