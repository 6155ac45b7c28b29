/-
  NextRewrite, IsOptimal: contracts of both sides.
-/
import Derived.Test.YtonkdndpfnapjaaRwY
namespace Go.Proofs.Ytonkdndpfnapjaa
open Go.ChangeShapes Go.WideShapes Go.ChangeAt Go.RowKit Go.Sort
set_option linter.unusedVariables false

def nrR (x : PatchD) : Int := if okB x then nxR x else 0
def nrN (x : PatchD) : Int := if okB x then nxN x else 0
def nrCode (x : PatchD) : Int := if okB x then (if nxB x then 0 else 3) else 1
def optB (x : PatchD) : Bool := okB x && (decide ((need x).length = x.nodes.length) && !nxB x)
theorem nx_zero {x : PatchD} (h : nxB x = false) : nxR x = 0 ∧ nxN x = 0 := by
  rcases e : fstI x with _ | i
  · exact ⟨(fst_novals e).1, (fst_novals e).2.1⟩
  · rw [(fst_vals e).2.2.1] at h; cases h
/-- a rewrite and a code -/
def RetR (w : World) (r n code : Int) (e : Ending) (w' : World) : Prop := e = .returned (.tuple #[.agg #[.int .i64 r, .int .i64 n], .int .i64 code]) ∧ Below w.heap.size w w'
set_option maxHeartbeats 8000000 in
set_option maxRecDepth 100000 in
theorem specNextRewrite_v {v : Value} {x : PatchD} (w : World) (h : VPatch w v x) :
    Calls Try.prog 13 #[v] w (RetR w (nrR x) (nrN x) (nrCode x)) := by
  obtain ⟨p1, c1, p2, c2, p3, c3, rfl, hp⟩ := PPatch.of h
  obtain ⟨g, hg⟩ : ∃ g, g = w.heap.size := ⟨_, rfl⟩
  obtain ⟨E, hE⟩ : ∃ E, E = (w.alloc (.cells #[.int .i64 x.inputs, .slice p1 x.tables.length c1, .slice p2 x.nodes.length c2, .slice p3 x.outputs.length c3] 32)).alloc (.cells #[.int .i64 0, .int .i64 0] 39) := ⟨_, rfl⟩
  have hp0 := hp.below ((Below.refl _ _).alloc (Nat.le_refl _) (.cells #[.int .i64 0, .int .i64 0] 39))
  rw [← hE, ← hg] at hp0
  have hB0 : Below w.heap.size w E := by rw [hE]; exact ((Below.refl _ _).alloc (Nat.le_refl _) _).alloc (by simp) _
  have br : Box E (g + 1) [.int .i64 0, .int .i64 0] 39 := by rw [hE, hg]; exact Box.newAt (w.alloc _) [.int .i64 0, .int .i64 0] _ (by simp)
  have hg1 : w.heap.size ≤ g + 1 := by omega
  have HE := Lib.hid hE
  have HG := Lib.hid hg
  have AS := Lib.hid (l07Ok_any E hp0)
  have HV : Hid (∀ b, okB x = b → nrR x = (if b then nxR x else 0) ∧ nrN x = (if b then nxN x else 0) ∧ nrCode x = if b then (if nxB x then 0 else 3) else 1) := fun b hb => by
    unfold nrR nrN nrCode; rw [hb]; exact ⟨rfl, rfl, rfl⟩
  clear hE hg hp h
  generalize hr1 : nrR x = R at HV ⊢
  generalize hr2 : nrN x = N at HV ⊢
  generalize hr3 : nrCode x = C at HV ⊢
  clear hr1 hr2 hr3
  cases hok : okB x
  case false =>
    rw [hok] at AS
    obtain ⟨e1, e2, e3⟩ := HV.out _ hok
    have e1' : R = 0 := e1
    have e2' : N = 0 := e2
    have e3' : C = 1 := e3
    clear e1 e2 e3
    subst e1' e2' e3'
    clear HV hok
    go_enter Try.func13, Try.ntmps13
    go_upto_region 1 with fail
    rw [← HE.out, ← HG.out]
    go_wp2_with fail
    refine AS.out.mono ?_
    rintro e W1 ⟨rfl, hb1⟩
    have br1 := br.below hb1
    have k1 := hB0.trans (hb1.mono hB0.size)
    have j0 := br1.frozen 0
    have j1 := br1.frozen 1
    have i0 := br1.cell 0 rfl
    have i1 := br1.cell 1 rfl
    have b9 := br1.put2 (a := .int .i64 0) (b := .int .i64 0)
    have L9 := Lib.hid (below_put2 (.int .i64 0) (.int .i64 0) k1 hg1)
    have q0 := b9.cell 0 rfl
    have q1 := b9.cell 1 rfl
    clear b9
    go_wp2_with fail
    refine bodyPost_ret (v := .tuple #[.agg #[.int .i64 0, .int .i64 0], .int .i64 1]) (by simp [results, Try.results13, go_sem, *]) rfl ?_
    exact ⟨rfl, L9.out⟩
  rw [hok] at AS
  obtain ⟨e1, e2, e3⟩ := HV.out _ hok
  have e1' : R = nxR x := e1
  have e2' : N = nxN x := e2
  have e3' : C = if nxB x then 0 else 3 := e3
  have HOK := Lib.hid hok
  clear HV hok e1 e2 e3
  have HC := Lib.hid e3'
  clear e3'
  have NZ := Lib.hid (nx_zero (x := x))
  go_enter Try.func13, Try.ntmps13
  go_upto_region 1 with fail
  rw [← HE.out, ← HG.out]
  go_wp2_with fail
  refine AS.out.mono ?_
  rintro e W1 ⟨rfl, hb1⟩
  have FI := Lib.hid (l10First_x W1 (hp0.below hb1) HOK.out)
  rw [← e1', ← e2'] at FI
  rw [← e1', ← e2'] at NZ
  have br1 := br.below hb1
  have k1 := hB0.trans (hb1.mono hB0.size)
  clear e1' e2'
  generalize nxB x = t at FI HC NZ
  go_wp2_with fail
  refine FI.out.mono ?_
  rintro e W2 ⟨rfl, hb2⟩
  have br2 := br1.below hb2
  have k2 := k1.trans (hb2.mono k1.size)
  obtain ⟨V, hV⟩ : ∃ V, V = W2.alloc (.cells #[.int .i64 R, .int .i64 N] 39) := ⟨_, rfl⟩
  have d2 : Below W2.heap.size W2 V := by rw [hV]; exact (Below.refl _ _).alloc (Nat.le_refl _) _
  have bo : Box V W2.heap.size [.int .i64 R, .int .i64 N] 39 := by rw [hV]; exact Box.newAt W2 [.int .i64 R, .int .i64 N] _ rfl
  have brV := br2.below d2
  have kV := k2.trans (d2.mono k2.size)
  have HV := Lib.hid hV
  clear hV d2
  have o0 := bo.cell 0 rfl
  have o1 := bo.cell 1 rfl
  have j0 := brV.frozen 0
  have j1 := brV.frozen 1
  have i0 := brV.cell 0 rfl
  have i1 := brV.cell 1 rfl
  go_upto_region 4 with fail
  rw [← HV.out]
  cases t
  case false =>
    obtain ⟨e1, e2⟩ := NZ.out rfl
    have e3 : C = 3 := HC.out
    subst e1 e2 e3
    have b9 := brV.put2 (a := .int .i64 0) (b := .int .i64 0)
    have L9 := Lib.hid (below_put2 (.int .i64 0) (.int .i64 0) kV hg1)
    have q0 := b9.cell 0 rfl
    have q1 := b9.cell 1 rfl
    clear b9
    go_wp2_with fail
    refine bodyPost_ret (v := .tuple #[.agg #[.int .i64 0, .int .i64 0], .int .i64 3]) (by simp [results, Try.results13, go_sem, *]) rfl ?_
    exact ⟨rfl, L9.out⟩
  case true =>
    have e3 : C = 0 := HC.out
    subst e3
    have b9 := brV.put2 (a := .int .i64 R) (b := .int .i64 N)
    have L9 := Lib.hid (below_put2 (.int .i64 R) (.int .i64 N) kV hg1)
    have q0 := b9.cell 0 rfl
    have q1 := b9.cell 1 rfl
    clear b9
    go_wp2_with fail
    refine bodyPost_ret (v := .tuple #[.agg #[.int .i64 R, .int .i64 N], .int .i64 0]) (by simp [results, Try.results13, go_sem, *]) rfl ?_
    exact ⟨rfl, L9.out⟩
set_option maxHeartbeats 8000000 in
set_option maxRecDepth 100000 in
theorem implNextRewrite_v {v : Value} {x : PatchD} (w : World) (h : VPatch w v x) :
    Calls Try.prog 14 #[v] w (RetR w (nrR x) (nrN x) (nrCode x)) := by
  have hv := h
  obtain ⟨p1, c1, p2, c2, p3, c3, rfl, -, -, -⟩ := h
  obtain ⟨g, hg⟩ : ∃ g, g = w.heap.size := ⟨_, rfl⟩
  obtain ⟨E, hE⟩ : ∃ E, E = (w.alloc (.cells #[.int .i64 x.inputs, .slice p1 x.tables.length c1, .slice p2 x.nodes.length c2, .slice p3 x.outputs.length c3] 32)).alloc (.cells #[.int .i64 0, .int .i64 0] 39) := ⟨_, rfl⟩
  have hB0 : Below w.heap.size w E := by rw [hE]; exact ((Below.refl _ _).alloc (Nat.le_refl _) _).alloc (by simp) _
  have bx : Box E g [.int .i64 x.inputs, .slice p1 x.tables.length c1, .slice p2 x.nodes.length c2, .slice p3 x.outputs.length c3] 32 := by rw [hE, hg]; exact (Box.newAt w _ _ rfl).alloc _
  have br : Box E (g + 1) [.int .i64 0, .int .i64 0] 39 := by rw [hE, hg]; exact Box.newAt (w.alloc _) [.int .i64 0, .int .i64 0] _ (by simp)
  have hg1 : w.heap.size ≤ g + 1 := by omega
  have HE := Lib.hid hE
  have HG := Lib.hid hg
  have AS := Lib.hid (isPatch_v E (hv.below hB0))
  have HV : Hid (∀ b, okB x = b → nrR x = (if b then nxR x else 0) ∧ nrN x = (if b then nxN x else 0) ∧ nrCode x = if b then (if nxB x then 0 else 3) else 1) := fun b hb => by
    unfold nrR nrN nrCode; rw [hb]; exact ⟨rfl, rfl, rfl⟩
  clear hE hg
  generalize hr1 : nrR x = R at HV ⊢
  generalize hr2 : nrN x = N at HV ⊢
  generalize hr3 : nrCode x = C at HV ⊢
  clear hr1 hr2 hr3
  have z0 := bx.cell 0 rfl
  have z1 := bx.cell 1 rfl
  have z2 := bx.cell 2 rfl
  have z3 := bx.cell 3 rfl
  cases hok : okB x
  case false =>
    rw [hok] at AS
    obtain ⟨e1, e2, e3⟩ := HV.out _ hok
    have e1' : R = 0 := e1
    have e2' : N = 0 := e2
    have e3' : C = 1 := e3
    clear e1 e2 e3
    subst e1' e2' e3'
    clear HV hok hv
    go_enter Try.func14, Try.ntmps14
    go_upto_region 1 with fail
    rw [← HE.out, ← HG.out]
    go_wp2_with fail
    refine AS.out.mono ?_
    rintro e W1 ⟨rfl, hb1⟩
    have br1 := br.below hb1
    have k1 := hB0.trans (hb1.mono hB0.size)
    clear z0 z1 z2 z3
    have j0 := br1.frozen 0
    have j1 := br1.frozen 1
    have i0 := br1.cell 0 rfl
    have i1 := br1.cell 1 rfl
    have b9 := br1.put2 (a := .int .i64 0) (b := .int .i64 0)
    have L9 := Lib.hid (below_put2 (.int .i64 0) (.int .i64 0) k1 hg1)
    have q0 := b9.cell 0 rfl
    have q1 := b9.cell 1 rfl
    clear b9
    go_wp2_with fail
    refine bodyPost_ret (v := .tuple #[.agg #[.int .i64 0, .int .i64 0], .int .i64 1]) (by simp [results, Try.results14, go_sem, *]) rfl ?_
    exact ⟨rfl, L9.out⟩
  rw [hok] at AS
  obtain ⟨e1, e2, e3⟩ := HV.out _ hok
  have e1' : R = nxR x := e1
  have e2' : N = nxN x := e2
  have e3' : C = if nxB x then 0 else 3 := e3
  have HF := Lib.hid (okB_formed hok)
  clear HV hok e1 e2 e3
  have HC := Lib.hid e3'
  clear e3'
  have NZ := Lib.hid (nx_zero (x := x))
  go_enter Try.func14, Try.ntmps14
  go_upto_region 1 with fail
  rw [← HE.out, ← HG.out]
  go_wp2_with fail
  refine AS.out.mono ?_
  rintro e W1 ⟨rfl, hb1⟩
  have br1 := br.below hb1
  have bx1 := bx.below hb1
  have k1 := hB0.trans (hb1.mono hB0.size)
  have FI := Lib.hid (next_x W1 (hv.below k1) HF.out)
  unfold RetX at FI
  rw [← e1', ← e2'] at FI
  rw [← e1', ← e2'] at NZ
  clear e1' e2' z0 z1 z2 z3
  have z0 := bx1.cell 0 rfl
  have z1 := bx1.cell 1 rfl
  have z2 := bx1.cell 2 rfl
  have z3 := bx1.cell 3 rfl
  generalize nxB x = t at FI HC NZ
  go_wp2_with fail
  refine FI.out.mono ?_
  rintro e W2 ⟨v', rfl, hvp, hb2⟩
  obtain ⟨s1, d1, s2, d2, s3, d3, rfl, -, -, -⟩ := hvp
  have br2 := br1.below hb2
  have k2 := k1.trans (hb2.mono k1.size)
  obtain ⟨V1, hV1⟩ : ∃ V, V = W2.alloc (.cells #[.int .i64 R, .int .i64 N] 39) := ⟨_, rfl⟩
  have x1 : Below W2.heap.size W2 V1 := by rw [hV1]; exact (Below.refl _ _).alloc (Nat.le_refl _) _
  have bo : Box V1 W2.heap.size [.int .i64 R, .int .i64 N] 39 := by rw [hV1]; exact Box.newAt W2 [.int .i64 R, .int .i64 N] _ rfl
  obtain ⟨V, hV⟩ : ∃ V, V = V1.alloc (.cells #[.int .i64 (nxP x).inputs, .slice s1 (nxP x).tables.length d1, .slice s2 (nxP x).nodes.length d2, .slice s3 (nxP x).outputs.length d3] 32) := ⟨_, rfl⟩
  have x2 : Below V1.heap.size V1 V := by rw [hV]; exact (Below.refl _ _).alloc (Nat.le_refl _) _
  have boV := bo.below x2
  have brV := (br2.below x1).below x2
  have kV := (k2.trans (x1.mono k2.size)).trans (x2.mono (k2.trans (x1.mono k2.size)).size)
  have HV1 := Lib.hid hV1
  have HV := Lib.hid hV
  clear hV hV1 x1 x2 z0 z1 z2 z3
  have o0 := boV.cell 0 rfl
  have o1 := boV.cell 1 rfl
  have j0 := brV.frozen 0
  have j1 := brV.frozen 1
  have i0 := brV.cell 0 rfl
  have i1 := brV.cell 1 rfl
  go_upto_region 4 with fail
  rw [← HV1.out, ← HV.out]
  cases t
  case false =>
    obtain ⟨e1, e2⟩ := NZ.out rfl
    have e3 : C = 3 := HC.out
    subst e1 e2 e3
    have b9 := brV.put2 (a := .int .i64 0) (b := .int .i64 0)
    have L9 := Lib.hid (below_put2 (.int .i64 0) (.int .i64 0) kV hg1)
    have q0 := b9.cell 0 rfl
    have q1 := b9.cell 1 rfl
    clear b9
    go_wp2_with fail
    refine bodyPost_ret (v := .tuple #[.agg #[.int .i64 0, .int .i64 0], .int .i64 3]) (by simp [results, Try.results14, go_sem, *]) rfl ?_
    exact ⟨rfl, L9.out⟩
  case true =>
    have e3 : C = 0 := HC.out
    subst e3
    have b9 := brV.put2 (a := .int .i64 R) (b := .int .i64 N)
    have L9 := Lib.hid (below_put2 (.int .i64 R) (.int .i64 N) kV hg1)
    have q0 := b9.cell 0 rfl
    have q1 := b9.cell 1 rfl
    clear b9
    go_wp2_with fail
    refine bodyPost_ret (v := .tuple #[.agg #[.int .i64 R, .int .i64 N], .int .i64 0]) (by simp [results, Try.results14, go_sem, *]) rfl ?_
    exact ⟨rfl, L9.out⟩
end Go.Proofs.Ytonkdndpfnapjaa
