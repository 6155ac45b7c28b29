/-
  Determinants of matrices of at most five rows: the determinant of a product, the theorem of Cayley and Hamilton; by polynomials that are computed.
-/
import Derived.Test.YtmfahnkcfcmhiaaChar3
import Derived.Test.YtmfahnkcfcmhiaaPolyM
namespace Go.Proofs.Ytmfahnkcfcmhiaa
set_option linter.unusedVariables false
set_option linter.unusedSimpArgs false
/-! ### determinants over any numbers -/
structure Ops (R : Type) where
  z : R
  one : R
  neg : R → R
  fma : R → R → R → R
section
variable {R : Type}
def gDot (o : Ops R) (xs ys : List R) : Nat → R
  | 0 => o.z
  | k + 1 => o.fma (gDot o xs ys k) (xs.getD k o.z) (ys.getD k o.z)
def gCol (o : Ops R) (b : List (List R)) (k : Nat) : List R := b.map fun r => r.getD k o.z
def gStep (o : Ops R) (a : List (List R)) (r : Nat) (s : List R) : List R := (a.take r).map fun row => gDot o row s r
def gIter (o : Ops R) (a : List (List R)) (r : Nat) : Nat → List R
  | 0 => gCol o (a.take r) r
  | k + 1 => gStep o a r (gIter o a r k)
def gFirst (o : Ops R) (a : List (List R)) (r k : Nat) : List R := o.one :: o.neg ((a.getD r []).getD r o.z) :: (List.range k).map fun j => o.neg (gDot o (a.getD r []) (gIter o a r j) r)
def gAcc (o : Ops R) (first out : List R) (i : Nat) : Nat → R
  | 0 => o.z
  | j + 1 => if j ≤ i then o.fma (gAcc o first out i j) (first.getD (i - j) o.z) (out.getD j o.z) else gAcc o first out i j
def gNext (o : Ops R) (first out : List R) : List R := (List.range (out.length + 1)).map fun i => gAcc o first out i out.length
/-- the coefficients of the characteristic polynomial of the first rows -/
def gChp (o : Ops R) (a : List (List R)) : Nat → List R
  | 0 => [o.one]
  | r + 1 => gNext o (gFirst o a r r) (gChp o a r)
def gRow (o : Ops R) (n : Nat) (x : List R) (b : List (List R)) : List R := (List.range n).map fun j => gDot o x (gCol o b j) n
def gMul (o : Ops R) (n : Nat) (a b : List (List R)) : List (List R) := a.map fun x => gRow o n x b
def gSg (o : Ops R) (r : List R) (f : Nat → R) : Nat → R
  | 0 => o.z
  | k + 1 => o.fma (gSg o r f k) (r.getD k o.z) (if k % 2 = 0 then f k else o.neg (f k))
/-- the determinant, by the first row -/
def gDet (o : Ops R) : Nat → List (List R) → R
  | 0, _ => o.one
  | n + 1, M => gSg o (M.headD []) (fun j => gDet o n (M.tail.map fun r => r.eraseIdx j)) (n + 1)
/-- one step of Horner's scheme in a matrix -/
def gHs (o : Ops R) (n : Nat) (a : List (List R)) (t : List (List R)) (c : R) : List (List R) :=
  (List.range n).map fun i => (List.range n).map fun j => if i = j then o.fma (gDot o (t.getD i []) (gCol o a j) n) o.one c else gDot o (t.getD i []) (gCol o a j) n
def gZero (o : Ops R) (n : Nat) : List (List R) := List.replicate n (List.replicate n o.z)
def gOne (o : Ops R) (n : Nat) : List (List R) := (List.range n).map fun i => (List.range n).map fun j => if i = j then o.one else o.z
def gHorn (o : Ops R) (n : Nat) (a : List (List R)) (cs : List R) : List (List R) := cs.foldl (gHs o n a) (gZero o n)
end
/-- a map that keeps all -/
structure Keeps {R S : Type} (o : Ops R) (o' : Ops S) (φ : R → S) : Prop where
  z : φ o.z = o'.z
  one : φ o.one = o'.one
  neg : ∀ x, φ (o.neg x) = o'.neg (φ x)
  fma : ∀ s x y, φ (o.fma s x y) = o'.fma (φ s) (φ x) (φ y)
section
variable {R S : Type} {o : Ops R} {o' : Ops S} {φ : R → S}
theorem getD_mapz (φ : R → S) (xs : List R) (k : Nat) (d : R) : (xs.map φ).getD k (φ d) = φ (xs.getD k d) := by
  simp only [List.getD_eq_getElem?_getD, List.getElem?_map]
  cases xs[k]? <;> rfl
theorem getD_mapn (φ : R → S) (a : List (List R)) (k : Nat) : (a.map (List.map φ)).getD k [] = (a.getD k []).map φ := getD_mapz (List.map φ) a k []
theorem Keeps.dot (h : Keeps o o' φ) (xs ys : List R) (k : Nat) : φ (gDot o xs ys k) = gDot o' (xs.map φ) (ys.map φ) k := by
  induction k with
  | zero => exact h.z
  | succ k ih => rw [gDot, gDot, h.fma, ih, ← h.z, getD_mapz, getD_mapz]
theorem Keeps.col (h : Keeps o o' φ) (b : List (List R)) (k : Nat) : (gCol o b k).map φ = gCol o' (b.map (List.map φ)) k := by
  unfold gCol
  rw [List.map_map, List.map_map]
  apply List.map_congr_left
  intro r _
  simp only [Function.comp_apply]
  rw [← h.z, getD_mapz]
theorem Keeps.step (h : Keeps o o' φ) (a : List (List R)) (r : Nat) (s : List R) : (gStep o a r s).map φ = gStep o' (a.map (List.map φ)) r (s.map φ) := by
  unfold gStep
  rw [← List.map_take, List.map_map, List.map_map]
  apply List.map_congr_left
  intro x _
  exact h.dot x s r
theorem Keeps.iter (h : Keeps o o' φ) (a : List (List R)) (r k : Nat) : (gIter o a r k).map φ = gIter o' (a.map (List.map φ)) r k := by
  induction k with
  | zero => rw [gIter, gIter, h.col, List.map_take]
  | succ k ih => rw [gIter, gIter, h.step, ih]
theorem Keeps.first (h : Keeps o o' φ) (a : List (List R)) (r k : Nat) : (gFirst o a r k).map φ = gFirst o' (a.map (List.map φ)) r k := by
  unfold gFirst
  rw [List.map_cons, List.map_cons, h.one, h.neg, getD_mapn, ← h.z, getD_mapz, List.map_map]
  congr 2
  apply List.map_congr_left
  intro j _
  simp only [Function.comp_apply]
  rw [h.neg, h.dot, h.iter]
theorem Keeps.acc (h : Keeps o o' φ) (f u : List R) (i j : Nat) : φ (gAcc o f u i j) = gAcc o' (f.map φ) (u.map φ) i j := by
  induction j with
  | zero => exact h.z
  | succ j ih =>
    rw [gAcc, gAcc]
    split
    · rw [h.fma, ih, ← h.z, getD_mapz, getD_mapz]
    · exact ih
theorem Keeps.next (h : Keeps o o' φ) (f u : List R) : (gNext o f u).map φ = gNext o' (f.map φ) (u.map φ) := by
  unfold gNext
  rw [List.map_map, List.length_map]
  apply List.map_congr_left
  intro i _
  exact h.acc f u i _
theorem Keeps.chp (h : Keeps o o' φ) (a : List (List R)) (r : Nat) : (gChp o a r).map φ = gChp o' (a.map (List.map φ)) r := by
  induction r with
  | zero => rw [gChp, gChp, List.map_cons, h.one]; rfl
  | succ r ih => rw [gChp, gChp, h.next, h.first, ih]
theorem Keeps.row (h : Keeps o o' φ) (n : Nat) (x : List R) (b : List (List R)) : (gRow o n x b).map φ = gRow o' n (x.map φ) (b.map (List.map φ)) := by
  unfold gRow
  rw [List.map_map]
  apply List.map_congr_left
  intro j _
  simp only [Function.comp_apply]
  rw [h.dot, h.col]
theorem Keeps.mul (h : Keeps o o' φ) (n : Nat) (a b : List (List R)) : (gMul o n a b).map (List.map φ) = gMul o' n (a.map (List.map φ)) (b.map (List.map φ)) := by
  unfold gMul
  rw [List.map_map, List.map_map]
  apply List.map_congr_left
  intro x _
  exact h.row n x b
theorem Keeps.sg (h : Keeps o o' φ) (r : List R) (f : Nat → R) (g : Nat → S) (hf : ∀ k, φ (f k) = g k) (n : Nat) : φ (gSg o r f n) = gSg o' (r.map φ) g n := by
  induction n with
  | zero => exact h.z
  | succ n ih =>
    rw [gSg, gSg, h.fma, ih, ← h.z, getD_mapz]
    congr 1
    split
    · exact hf n
    · rw [h.neg, hf]
theorem map_eraseIdx (φ : R → S) (r : List R) (j : Nat) : (r.eraseIdx j).map φ = (r.map φ).eraseIdx j := by
  induction r generalizing j with
  | nil => rfl
  | cons x r ih => cases j with
    | zero => rfl
    | succ j => simp [List.eraseIdx, ih]
theorem Keeps.det (h : Keeps o o' φ) (n : Nat) (M : List (List R)) : φ (gDet o n M) = gDet o' n (M.map (List.map φ)) := by
  induction n generalizing M with
  | zero => exact h.one
  | succ n ih =>
    rw [gDet, gDet, h.sg (g := fun j => gDet o' n ((M.map (List.map φ)).tail.map fun r => r.eraseIdx j))]
    · congr 1
      cases M <;> rfl
    · intro k
      rw [ih, List.map_map, ← List.map_tail, List.map_map]
      congr 1
      apply List.map_congr_left
      intro r _
      exact map_eraseIdx φ r k
theorem Keeps.hs (h : Keeps o o' φ) (n : Nat) (a t : List (List R)) (c : R) : (gHs o n a t c).map (List.map φ) = gHs o' n (a.map (List.map φ)) (t.map (List.map φ)) (φ c) := by
  unfold gHs
  rw [List.map_map]
  apply List.map_congr_left
  intro i _
  simp only [Function.comp_apply, List.map_map]
  apply List.map_congr_left
  intro j _
  simp only [Function.comp_apply]
  rw [getD_mapn, ← h.col, ← h.dot]
  split
  · rw [h.fma, h.one]
  · rfl
theorem Keeps.horn (h : Keeps o o' φ) (n : Nat) (a : List (List R)) (cs : List R) : (gHorn o n a cs).map (List.map φ) = gHorn o' n (a.map (List.map φ)) (cs.map φ) := by
  unfold gHorn
  have : ∀ t, (cs.foldl (gHs o n a) t).map (List.map φ) = (cs.map φ).foldl (gHs o' n (a.map (List.map φ))) (t.map (List.map φ)) := by
    induction cs with
    | nil => intro t; rfl
    | cons c cs ih => intro t; rw [List.foldl_cons, ih, List.map_cons, List.foldl_cons, h.hs]
  rw [this]
  congr 1
  unfold gZero
  rw [List.map_replicate, List.map_replicate, h.z]
end
/-! ### polynomials -/
def lexM : List Nat → List Nat → Ordering
  | [], [] => .eq
  | [], _ :: _ => .gt
  | _ :: _, [] => .lt
  | a :: x, b :: y => if a < b then .lt else if a = b then lexM x y else .gt
def insM (v : Nat) : List Nat → List Nat
  | [] => [v]
  | u :: m => if v ≤ u then v :: u :: m else u :: insM v m
def mulMn (m m' : List Nat) : List Nat := m.foldr insM m'
abbrev Pl := List (Int × List Nat)
def mergeP1 (x : Int × List Nat) (rec : Pl → Pl) : Pl → Pl
  | [] => x :: rec []
  | y :: ys => match lexM x.2 y.2 with
    | .lt => x :: rec (y :: ys)
    | .gt => y :: mergeP1 x rec ys
    | .eq => if x.1 + y.1 = 0 then rec ys else (x.1 + y.1, x.2) :: rec ys
def mergeP : Pl → Pl → Pl
  | [] => fun q => q
  | x :: xs => mergeP1 x (mergeP xs)
def shiftP (c : Int) (m : List Nat) (p : Pl) : Pl := p.map fun t => (c * t.1, mulMn m t.2)
def mulPl : Pl → Pl → Pl
  | [], _ => []
  | t :: p, q => mergeP (shiftP t.1 t.2 q) (mulPl p q)
def negPl (p : Pl) : Pl := p.map fun t => (-t.1, t.2)
def oP : Ops Pl := ⟨[], [(1, [])], negPl, fun s x y => mergeP s (mulPl x y)⟩
def oZ : Ops Int := ⟨0, 1, fun x => -x, fun s x y => s + x * y⟩
def evM (ρ : Nat → Int) : List Nat → Int
  | [] => 1
  | v :: m => ρ v * evM ρ m
def evP (ρ : Nat → Int) : Pl → Int
  | [] => 0
  | t :: p => t.1 * evM ρ t.2 + evP ρ p
section
variable (ρ : Nat → Int)
theorem lexM_eq {x y : List Nat} (h : lexM x y = .eq) : x = y := by
  induction x generalizing y with
  | nil => cases y with
    | nil => rfl
    | cons b y => simp [lexM] at h
  | cons a x ih => cases y with
    | nil => simp [lexM] at h
    | cons b y =>
      rw [lexM] at h
      by_cases h1 : a < b
      · rw [if_pos h1] at h; cases h
      · rw [if_neg h1] at h
        by_cases h2 : a = b
        · rw [if_pos h2] at h; rw [h2, ih h]
        · rw [if_neg h2] at h; cases h
theorem ev_ins (v : Nat) (m : List Nat) : evM ρ (insM v m) = ρ v * evM ρ m := by
  induction m with
  | nil => rfl
  | cons u m ih =>
    rw [insM]
    split
    · rfl
    · rw [evM, ih, evM, Int.mul_left_comm]
theorem ev_mulM (m m' : List Nat) : evM ρ (mulMn m m') = evM ρ m * evM ρ m' := by
  unfold mulMn
  induction m with
  | nil => rw [List.foldr_nil, evM, Int.one_mul]
  | cons v m ih => rw [List.foldr_cons, ev_ins, ih, evM, Int.mul_assoc]
theorem evP_cons (t : Int × List Nat) (p : Pl) : evP ρ (t :: p) = t.1 * evM ρ t.2 + evP ρ p := rfl
theorem ev_merge (p q : Pl) : evP ρ (mergeP p q) = evP ρ p + evP ρ q := by
  induction p generalizing q with
  | nil => rw [mergeP, evP, Int.zero_add]
  | cons x p ih =>
    rw [mergeP]
    induction q with
    | nil => rw [mergeP1, evP_cons, ih, evP_cons, Int.add_assoc]
    | cons y q ih2 =>
      rw [mergeP1]
      split
      · rw [evP_cons, ih, evP_cons ρ x p, Int.add_assoc]
      · rw [evP_cons, ih2, evP_cons ρ y q, Int.add_left_comm]
      · rename_i he
        have e := lexM_eq he
        split
        · rename_i h0
          rw [ih, evP_cons, evP_cons, ← e]
          have : x.1 * evM ρ x.2 + y.1 * evM ρ x.2 = 0 := by rw [← Int.add_mul, h0, Int.zero_mul]
          omega
        · rw [evP_cons, ih, evP_cons, evP_cons, ← e]
          simp only [Int.add_mul]
          omega
theorem ev_shift (c : Int) (m : List Nat) (p : Pl) : evP ρ (shiftP c m p) = c * evM ρ m * evP ρ p := by
  unfold shiftP
  induction p with
  | nil => rw [List.map_nil, evP, Int.mul_zero]
  | cons t p ih =>
    rw [List.map_cons, evP, ih, evP, ev_mulM, Int.mul_add]
    simp only []
    congr 1
    ac_rfl
theorem ev_mul (p q : Pl) : evP ρ (mulPl p q) = evP ρ p * evP ρ q := by
  induction p with
  | nil => rw [mulPl, evP, Int.zero_mul]
  | cons t p ih => rw [mulPl, ev_merge, ev_shift, ih, evP, Int.add_mul]
theorem ev_neg (p : Pl) : evP ρ (negPl p) = -evP ρ p := by
  unfold negPl
  induction p with
  | nil => rfl
  | cons t p ih => rw [List.map_cons, evP, ih, evP, Int.neg_add]; simp only [Int.neg_mul]
theorem ev_keeps : Keeps oP oZ (evP ρ) := ⟨rfl, rfl, ev_neg ρ, fun s x y => by show evP ρ (mergeP s (mulPl x y)) = _; rw [ev_merge, ev_mul]; rfl⟩
end
/-- a matrix of variables -/
def sym (n off : Nat) : List (List Pl) := (List.range n).map fun i => (List.range n).map fun j => [(1, [off + (i * n + j)])]
def swapAt {α : Type} : Nat → List α → List α
  | 0, u :: v :: q => v :: u :: q
  | i + 1, x :: q => x :: swapAt i q
  | _, q => q
def varsP (n off : Nat) : List Pl := (List.range n).map fun j => [(1, [off + j])]
def subP (p q : Pl) : Pl := mergeP p (negPl q)
def detOk (n : Nat) : Bool := subP ((gChp oP (sym n 0) n).getD n []) (if n % 2 = 1 then negPl (gDet oP n (sym n 0)) else gDet oP n (sym n 0)) == []
def swapOk (n i : Nat) : Bool := mergeP (gDet oP n (swapAt i (sym n 0))) (gDet oP n (sym n 0)) == []
def linOk (n p : Nat) : Bool :=
  subP (gDet oP n ((sym n 0).set p (gRow oP n (varsP n 50) (sym n 25)))) (gDot oP (varsP n 50) ((List.range n).map fun k => gDet oP n ((sym n 0).set p ((sym n 25).getD k []))) n) == []
def rowOk (n : Nat) : Bool := gRow oP n (varsP n 0) (gOne oP n) == varsP n 0
def chOk (n : Nat) : Bool := gHorn oP n (sym n 0) (gChp oP (sym n 0) n) == gZero oP n
theorem detOk_all : (List.range 6).all detOk = true := by decide +kernel
theorem swapOk_all : (List.range 6).all (fun n => (List.range (n - 1)).all (swapOk n)) = true := by decide +kernel
theorem linOk_all : (List.range 6).all (fun n => (List.range n).all (linOk n)) = true := by decide +kernel
theorem rowOk_all : (List.range 6).all rowOk = true := by decide +kernel
theorem chOk_all : (List.range 6).all chOk = true := by decide +kernel
/-- a square matrix -/
def Sq (n : Nat) (M : List (List Int)) : Prop := M.length = n ∧ ∀ r ∈ M, r.length = n
theorem sub_zero {ρ : Nat → Int} {p q : Pl} (h : (subP p q == []) = true) : evP ρ p = evP ρ q := by
  have h1 : subP p q = [] := by simpa using h
  have := congrArg (evP ρ) h1
  unfold subP at this
  rw [ev_merge, ev_neg, evP] at this
  omega
theorem ev_var (ρ : Nat → Int) (v : Nat) : evP ρ [(1, [v])] = ρ v := by simp [evP, evM]
theorem row_eta {n : Nat} {r : List Int} (h : r.length = n) : (List.range n).map (fun j => r.getD j 0) = r := by
  apply List.ext_getElem
  · simp [h]
  · intro i h1 h2
    rw [List.getElem_map, List.getElem_range, List.getD_eq_getElem?_getD, List.getElem?_eq_getElem h2]; rfl
theorem mat_eta {n : Nat} {M : List (List Int)} (h : Sq n M) : (List.range n).map (fun i => (List.range n).map fun j => (M.getD i []).getD j 0) = M := by
  apply List.ext_getElem
  · simp [h.1]
  · intro i h1 h2
    rw [List.getElem_map, List.getElem_range, List.getD_eq_getElem?_getD, List.getElem?_eq_getElem h2]
    exact row_eta (h.2 _ (List.getElem_mem h2))
theorem sym_ev {n off : Nat} {M : List (List Int)} (h : Sq n M) {ρ : Nat → Int} (hρ : ∀ i j, i < n → j < n → ρ (off + (i * n + j)) = (M.getD i []).getD j 0) : (sym n off).map (List.map (evP ρ)) = M := by
  conv => rhs; rw [← mat_eta h]
  unfold sym
  rw [List.map_map]
  apply List.map_congr_left
  intro i hi
  simp only [Function.comp_apply, List.map_map]
  apply List.map_congr_left
  intro j hj
  simp only [Function.comp_apply]
  rw [ev_var, hρ i j (List.mem_range.1 hi) (List.mem_range.1 hj)]
theorem vars_ev {n off : Nat} {x : List Int} (h : x.length = n) {ρ : Nat → Int} (hρ : ∀ j, j < n → ρ (off + j) = x.getD j 0) : (varsP n off).map (evP ρ) = x := by
  conv => rhs; rw [← row_eta h]
  unfold varsP
  rw [List.map_map]
  apply List.map_congr_left
  intro j hj
  simp only [Function.comp_apply]
  rw [ev_var, hρ j (List.mem_range.1 hj)]
/-- the numbers of a matrix, another and a row -/
def rhoM (n : Nat) (M B : List (List Int)) (x : List Int) (v : Nat) : Int :=
  if v < 25 then (M.getD (v / n) []).getD (v % n) 0 else if v < 50 then (B.getD ((v - 25) / n) []).getD ((v - 25) % n) 0 else x.getD (v - 50) 0
theorem idx_lt {n i j : Nat} (hn : n ≤ 5) (hi : i < n) (hj : j < n) : i * n + j < 25 := by
  have : i * n ≤ 4 * n := Nat.mul_le_mul_right n (by omega)
  omega
theorem idx_div {n i j : Nat} (hj : j < n) : (i * n + j) / n = i := by
  rw [Nat.mul_comm, Nat.mul_add_div (by omega), Nat.div_eq_of_lt hj]; rfl
theorem idx_mod {n i j : Nat} (hj : j < n) : (i * n + j) % n = j := by
  rw [Nat.mul_comm, Nat.mul_add_mod, Nat.mod_eq_of_lt hj]
theorem rho_M {n : Nat} (hn : n ≤ 5) {M B : List (List Int)} {x : List Int} {i j : Nat} (hi : i < n) (hj : j < n) : rhoM n M B x (0 + (i * n + j)) = (M.getD i []).getD j 0 := by
  unfold rhoM
  rw [Nat.zero_add, if_pos (idx_lt hn hi hj), idx_div hj, idx_mod hj]
theorem rho_B {n : Nat} (hn : n ≤ 5) {M B : List (List Int)} {x : List Int} {i j : Nat} (hi : i < n) (hj : j < n) : rhoM n M B x (25 + (i * n + j)) = (B.getD i []).getD j 0 := by
  have := idx_lt hn hi hj
  unfold rhoM
  rw [if_neg (by omega), if_pos (by omega), Nat.add_sub_cancel_left, idx_div hj, idx_mod hj]
theorem rho_x {n : Nat} {M B : List (List Int)} {x : List Int} {j : Nat} : rhoM n M B x (50 + j) = x.getD j 0 := by
  unfold rhoM
  rw [if_neg (by omega), if_neg (by omega), Nat.add_sub_cancel_left]
theorem small_of {n : Nat} {f : Nat → Bool} (h : (List.range 6).all f = true) (hn : n ≤ 5) : f n = true := by
  rw [List.all_eq_true] at h
  exact h n (List.mem_range.2 (by omega))
/-- the determinant -/
def detZ (n : Nat) (M : List (List Int)) : Int := gDet oZ n M
theorem det_chp {n : Nat} (hn : n ≤ 5) {M : List (List Int)} (h : Sq n M) : (gChp oZ M n).getD n 0 = if n % 2 = 1 then -detZ n M else detZ n M := by
  have K := ev_keeps (rhoM n M M [])
  have e := sub_zero (ρ := rhoM n M M []) (small_of detOk_all hn)
  have s := sym_ev (off := 0) h (ρ := rhoM n M M []) (fun i j hi hj => rho_M hn hi hj)
  have e1 := K.det n (sym n 0)
  rw [s] at e1
  have e2 := K.chp (sym n 0) n
  rw [s] at e2
  have z : evP (rhoM n M M []) ((gChp oP (sym n 0) n).getD n []) = (gChp oZ M n).getD n 0 := by
    rw [← e2]; exact (getD_mapz (evP (rhoM n M M [])) _ n []).symm
  rw [z] at e
  rw [e]
  unfold detZ
  split
  · rw [ev_neg, e1]
  · exact e1
theorem map_swapAt {α β : Type} (f : α → β) (i : Nat) (l : List α) : (swapAt i l).map f = swapAt i (l.map f) := by
  induction l generalizing i with
  | nil => cases i <;> rfl
  | cons x l ih => cases i with
    | zero => cases l <;> rfl
    | succ i => show f x :: (swapAt i l).map f = f x :: swapAt i (l.map f); rw [ih]
theorem det_swap {n : Nat} (hn : n ≤ 5) {M : List (List Int)} (h : Sq n M) {i : Nat} (hi : i + 1 < n) : detZ n (swapAt i M) = -detZ n M := by
  have K := ev_keeps (rhoM n M M [])
  have s := sym_ev (off := 0) h (ρ := rhoM n M M []) (fun i j hi hj => rho_M hn hi hj)
  have o := small_of swapOk_all hn
  rw [List.all_eq_true] at o
  have o1 := o i (List.mem_range.2 (by omega))
  unfold swapOk at o1
  have o2 : mergeP (gDet oP n (swapAt i (sym n 0))) (gDet oP n (sym n 0)) = [] := by simpa using o1
  have e := congrArg (evP (rhoM n M M [])) o2
  rw [ev_merge, K.det, K.det, map_swapAt, s, evP] at e
  unfold detZ
  omega
theorem swapAt_mid {α : Type} (P : List α) (u v : α) (Q : List α) : swapAt P.length (P ++ u :: v :: Q) = P ++ v :: u :: Q := by
  induction P with
  | nil => rfl
  | cons x P ih => show x :: swapAt P.length (P ++ u :: v :: Q) = _; rw [ih]; rfl
/-- the sum of the first products -/
def sumX (x : List Int) (f : Nat → Int) : Nat → Int
  | 0 => 0
  | k + 1 => sumX x f k + x.getD k 0 * f k
theorem sumX_dot (x : List Int) (f : Nat → Int) {n k : Nat} (h : k ≤ n) : gDot oZ x ((List.range n).map f) k = sumX x f k := by
  induction k with
  | zero => rfl
  | succ k ih =>
    rw [gDot, sumX, ih (by omega)]
    have : ((List.range n).map f).getD k 0 = f k := by rw [List.getD_eq_getElem?_getD, List.getElem?_map, List.getElem?_range (by omega)]; rfl
    show sumX x f k + x.getD k 0 * ((List.range n).map f).getD k 0 = _
    rw [this]
theorem sumX_congr (x : List Int) {f g : Nat → Int} {n : Nat} (h : ∀ k, k < n → f k = g k) : sumX x f n = sumX x g n := by
  induction n with
  | zero => rfl
  | succ n ih => rw [sumX, sumX, ih (fun k hk => h k (by omega)), h n (by omega)]
theorem sumX_mul (x : List Int) (f : Nat → Int) (d : Int) (n : Nat) : sumX x (fun k => f k * d) n = sumX x f n * d := by
  induction n with
  | zero => simp [sumX]
  | succ n ih => rw [sumX, sumX, ih, Int.add_mul, Int.mul_assoc]
theorem set_place {α : Type} (P : List α) (u v : α) (Q : List α) : (P ++ u :: Q).set P.length v = P ++ v :: Q := by
  induction P with
  | nil => rfl
  | cons x P ih => show x :: (P ++ u :: Q).set P.length v = _; rw [ih]; rfl
theorem det_lin {n : Nat} (hn : n ≤ 5) {P Q : List (List Int)} (u : List Int) (h : Sq n (P ++ u :: Q)) {B : List (List Int)} (hB : Sq n B) {x : List Int} (hx : x.length = n) :
    detZ n (P ++ gRow oZ n x B :: Q) = sumX x (fun k => detZ n (P ++ B.getD k [] :: Q)) n := by
  obtain ⟨ρ, hρ⟩ : ∃ ρ, ρ = rhoM n (P ++ u :: Q) B x := ⟨_, rfl⟩
  have K := ev_keeps ρ
  have s := sym_ev (off := 0) h (ρ := ρ) (fun i j hi hj => by rw [hρ]; exact rho_M hn hi hj)
  have t := sym_ev (off := 25) hB (ρ := ρ) (fun i j hi hj => by rw [hρ]; exact rho_B hn hi hj)
  have v := vars_ev (off := 50) hx (ρ := ρ) (fun j hj => by rw [hρ]; exact rho_x)
  have hp : P.length < n := by have := h.1; simp at this; omega
  have o := small_of linOk_all hn
  rw [List.all_eq_true] at o
  have e := sub_zero (ρ := ρ) (o P.length (List.mem_range.2 hp))
  rw [K.det, K.dot, List.map_set, K.row, s, t, v, set_place, List.map_map] at e
  rw [← sumX_dot x _ (Nat.le_refl n)]
  unfold detZ
  rw [e]
  congr 1
  apply List.map_congr_left
  intro k _
  simp only [Function.comp_apply]
  rw [K.det, List.map_set, s, ← getD_mapn, t, set_place]
theorem row_one {n : Nat} (hn : n ≤ 5) {x : List Int} (hx : x.length = n) : gRow oZ n x (gOne oZ n) = x := by
  obtain ⟨ρ, hρ⟩ : ∃ ρ : Nat → Int, ρ = fun v => x.getD v 0 := ⟨_, rfl⟩
  have K := ev_keeps ρ
  have v := vars_ev (off := 0) hx (ρ := ρ) (fun j hj => by rw [hρ, Nat.zero_add])
  have o : gRow oP n (varsP n 0) (gOne oP n) = varsP n 0 := by have := small_of rowOk_all hn; unfold rowOk at this; simpa using this
  have e := congrArg (List.map (evP ρ)) o
  rw [K.row, v] at e
  have : (gOne oP n).map (List.map (evP ρ)) = gOne oZ n := by
    unfold gOne
    rw [List.map_map]
    apply List.map_congr_left
    intro i _
    simp only [Function.comp_apply, List.map_map]
    apply List.map_congr_left
    intro j _
    simp only [Function.comp_apply]
    split
    · rfl
    · rfl
  rwa [this] at e
theorem gOne_sq (n : Nat) : Sq n (gOne oZ n) := by
  refine ⟨by simp [gOne], fun r hr => ?_⟩
  unfold gOne at hr
  obtain ⟨i, _, rfl⟩ := List.mem_map.1 hr
  simp
/-! ### permutations -/
def insS (k : Nat) : List Nat → Int × List Nat
  | [] => (1, [k])
  | u :: us => if k ≤ u then (1, k :: u :: us) else (-(insS k us).1, u :: (insS k us).2)
def sortS : List Nat → Int × List Nat
  | [] => (1, [])
  | k :: ks => ((sortS ks).1 * (insS k (sortS ks).2).1, (insS k (sortS ks).2).2)
theorem insS_length (k : Nat) (l : List Nat) : (insS k l).2.length = l.length + 1 := by
  induction l with
  | nil => rfl
  | cons u l ih =>
    rw [insS]
    split
    · rfl
    · simp [ih]
theorem sortS_length (l : List Nat) : (sortS l).2.length = l.length := by
  induction l with
  | nil => rfl
  | cons k l ih => rw [sortS, insS_length, ih]; rfl
section
variable {n : Nat} (hn : n ≤ 5) {f : Nat → List Int} (hf : ∀ k, (f k).length = n)
include hn hf
omit hn in
theorem sq_map {P : List Nat} (h : P.length = n) : Sq n (P.map f) := by
  refine ⟨by simp [h], fun r hr => ?_⟩
  obtain ⟨k, _, rfl⟩ := List.mem_map.1 hr
  exact hf k
theorem det_insS (k : Nat) (l P : List Nat) (h : P.length + (l.length + 1) = n) : detZ n ((P ++ k :: l).map f) = (insS k l).1 * detZ n ((P ++ (insS k l).2).map f) := by
  induction l generalizing P with
  | nil => rw [insS, Int.one_mul]
  | cons u l ih =>
    rw [insS]
    split
    · rw [Int.one_mul]
    · have h1 := ih (P ++ [u]) (by simp at h ⊢; omega)
      simp only [List.append_assoc, List.singleton_append] at h1
      have h2 := det_swap hn (sq_map hf (P := P ++ u :: k :: l) (by simp at h ⊢; omega)) (i := P.length) (by simp at h; omega)
      rw [← map_swapAt, swapAt_mid] at h2
      rw [h2, h1, Int.neg_mul]
theorem det_sortS (l P : List Nat) (h : P.length + l.length = n) : detZ n ((P ++ l).map f) = (sortS l).1 * detZ n ((P ++ (sortS l).2).map f) := by
  induction l generalizing P with
  | nil => rw [sortS, Int.one_mul]
  | cons k l ih =>
    rw [sortS]
    have h1 := ih (P ++ [k]) (by simp at h ⊢; omega)
    simp only [List.append_assoc, List.singleton_append] at h1
    rw [h1, det_insS hn hf k _ P (by rw [sortS_length]; simpa using h), Int.mul_assoc]
theorem det_twice (P Q : List Nat) (k : Nat) (h : (P ++ k :: k :: Q).length = n) : detZ n ((P ++ k :: k :: Q).map f) = 0 := by
  have h2 := det_swap hn (sq_map hf h) (i := P.length) (by simp at h; omega)
  rw [← map_swapAt, swapAt_mid] at h2
  omega
end
def twiceB : List Nat → Bool
  | a :: b :: l => a == b || twiceB (b :: l)
  | _ => false
theorem twice_split {l : List Nat} (h : twiceB l = true) : ∃ P k Q, l = P ++ k :: k :: Q := by
  induction l with
  | nil => simp [twiceB] at h
  | cons a l ih => cases l with
    | nil => simp [twiceB] at h
    | cons b l =>
      rw [twiceB, Bool.or_eq_true] at h
      rcases h with h | h
      · have : a = b := by simpa using h
        exact ⟨[], a, l, by rw [this]; rfl⟩
      · obtain ⟨P, k, Q, e⟩ := ih h
        exact ⟨a :: P, k, Q, by rw [e]; rfl⟩
def allT (n : Nat) : Nat → (List Nat → Bool) → Bool
  | 0, f => f []
  | p + 1, f => (List.range n).all fun k => allT n p fun l => f (k :: l)
theorem allT_mem {n p : Nat} {f : List Nat → Bool} (h : allT n p f = true) {l : List Nat} (hl : l.length = p) (hk : ∀ k ∈ l, k < n) : f l = true := by
  induction p generalizing f l with
  | zero => rw [List.eq_nil_of_length_eq_zero hl]; exact h
  | succ p ih => cases l with
    | nil => simp at hl
    | cons k l =>
      rw [allT, List.all_eq_true] at h
      exact ih (h k (List.mem_range.2 (hk k (by simp)))) (by simpa using hl) (fun j hj => hk j (by simp [hj]))
theorem sorted_all : (List.range 6).all (fun n => allT n n fun l => (sortS l).2 == List.range n || twiceB (sortS l).2) = true := by decide +kernel
theorem det_one_all : (List.range 6).all (fun n => detZ n (gOne oZ n) == 1) = true := by decide +kernel
def rowsOf (B : List (List Int)) (n : Nat) (k : Nat) : List Int := if k < n then B.getD k [] else List.replicate n 0
theorem rowsOf_length {B : List (List Int)} {n : Nat} (h : Sq n B) (k : Nat) : (rowsOf B n k).length = n := by
  unfold rowsOf
  split
  · rename_i hk
    rw [List.getD_eq_getElem?_getD, List.getElem?_eq_getElem (by rw [h.1]; exact hk)]
    exact h.2 _ (List.getElem_mem _)
  · simp
theorem rowsOf_map {B : List (List Int)} {n : Nat} (h : Sq n B) : (List.range n).map (rowsOf B n) = B := by
  apply List.ext_getElem
  · simp [h.1]
  · intro i h1 h2
    rw [List.getElem_map, List.getElem_range]
    unfold rowsOf
    rw [if_pos (by rw [← h.1]; exact h2), List.getD_eq_getElem?_getD, List.getElem?_eq_getElem h2]; rfl
theorem det_perm {n : Nat} (hn : n ≤ 5) {B : List (List Int)} (h : Sq n B) {P : List Nat} (hP : P.length = n) (hk : ∀ k ∈ P, k < n) :
    detZ n (P.map (rowsOf B n)) = detZ n (P.map (rowsOf (gOne oZ n) n)) * detZ n B := by
  have o := allT_mem (small_of sorted_all hn) hP hk
  have e1 := det_sortS hn (rowsOf_length h) P [] (by simpa using hP)
  have e2 := det_sortS hn (rowsOf_length (gOne_sq n)) P [] (by simpa using hP)
  simp only [List.nil_append] at e1 e2
  rw [e1, e2]
  rw [Bool.or_eq_true] at o
  rcases o with o | o
  · have o1 : (sortS P).2 = List.range n := by simpa using o
    have d : detZ n (gOne oZ n) = 1 := by simpa using small_of det_one_all hn
    rw [o1, rowsOf_map h, rowsOf_map (gOne_sq n), d, Int.mul_one]
  · obtain ⟨A, k, Q, e⟩ := twice_split o
    have l : (A ++ k :: k :: Q).length = n := by rw [← e, sortS_length, hP]
    rw [e, det_twice hn (rowsOf_length h) A Q k l, det_twice hn (rowsOf_length (gOne_sq n)) A Q k l]
    simp
theorem det_mul_at {n : Nat} (hn : n ≤ 5) {B : List (List Int)} (hB : Sq n B) (Q : List (List Int)) : ∀ (P : List Nat), P.length + Q.length = n → (∀ k ∈ P, k < n) → (∀ r ∈ Q, r.length = n) →
    detZ n (P.map (rowsOf B n) ++ Q.map fun x => gRow oZ n x B) = detZ n (P.map (rowsOf (gOne oZ n) n) ++ Q) * detZ n B := by
  induction Q with
  | nil =>
    intro P hP hk _
    simp only [List.map_nil, List.append_nil]
    exact det_perm hn hB (by simpa using hP) hk
  | cons x Q ih =>
    intro P hP hk hr
    have hx := hr x (by simp)
    have hl : ∀ B', Sq n B' → ∀ Q' : List (List Int), Q'.length = Q.length → (∀ r ∈ Q', r.length = n) → Sq n (P.map (rowsOf B' n) ++ x :: Q') := fun B' hB' Q' hQ hr' => by
      refine ⟨by simp at hP ⊢; omega, fun r h => ?_⟩
      rcases List.mem_append.1 h with h | h
      · obtain ⟨k, _, rfl⟩ := List.mem_map.1 h
        exact rowsOf_length hB' k
      · rcases List.mem_cons.1 h with rfl | h
        · exact hx
        · exact hr' r h
    have hrow : ∀ y, (gRow oZ n y B).length = n := fun y => by simp [gRow]
    rw [List.map_cons, det_lin hn x (hl B hB _ (by simp) (fun r h => by obtain ⟨y, _, rfl⟩ := List.mem_map.1 h; exact hrow y)) hB hx]
    have e2 := det_lin hn x (hl (gOne oZ n) (gOne_sq n) Q rfl (fun r h => hr r (by simp [h]))) (gOne_sq n) hx
    rw [row_one hn hx] at e2
    rw [e2, ← sumX_mul]
    apply sumX_congr
    intro k hkn
    have e3 := ih (P ++ [k]) (by simp at hP ⊢; omega) (fun j hj => by
      rcases List.mem_append.1 hj with h | h
      · exact hk j h
      · rw [List.mem_singleton.1 h]; exact hkn) (fun r h => hr r (by simp [h]))
    have q : ∀ B', rowsOf B' n k = B'.getD k [] := fun B' => by unfold rowsOf; rw [if_pos hkn]
    simp only [List.map_append, List.map_cons, List.map_nil, List.append_assoc, List.singleton_append, q] at e3
    exact e3
/-- the determinant of a product -/
theorem det_mul {n : Nat} (hn : n ≤ 5) {A B : List (List Int)} (hA : Sq n A) (hB : Sq n B) : detZ n (gMul oZ n A B) = detZ n A * detZ n B := by
  have := det_mul_at hn hB A [] (by simpa using hA.1) (by simp) hA.2
  exact this
/-- every matrix satisfies its characteristic polynomial -/
theorem cayley {n : Nat} (hn : n ≤ 5) {A : List (List Int)} (h : Sq n A) : gHorn oZ n A (gChp oZ A n) = gZero oZ n := by
  have K := ev_keeps (rhoM n A A [])
  have s := sym_ev (off := 0) h (ρ := rhoM n A A []) (fun i j hi hj => rho_M hn hi hj)
  have o : gHorn oP n (sym n 0) (gChp oP (sym n 0) n) = gZero oP n := by have := small_of chOk_all hn; unfold chOk at this; simpa using this
  have e := congrArg (List.map (List.map (evP (rhoM n A A [])))) o
  rw [K.horn, K.chp, s] at e
  rw [e]
  unfold gZero
  rw [List.map_replicate, List.map_replicate]
  rfl
end Go.Proofs.Ytmfahnkcfcmhiaa
