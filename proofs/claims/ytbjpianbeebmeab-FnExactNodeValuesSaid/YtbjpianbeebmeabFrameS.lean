/-
  Frames of a patch: the values of the nodes by the reference; contracts.
-/
import Derived.Test.YtbjpianbeebmeabFrameM
import Derived.Test.YtbjpianbeebmeabPatS2
import Derived.Test.YtbjpianbeebmeabPatO
namespace Go.Proofs.Ytbjpianbeebmeab
open Go.ChangeShapes Go.WideShapes Go.ChangeAt Go.RowKit Go.Sort
set_option linter.unusedVariables false

theorem l08In_any {b o : Nat} {x : NodeD} {fr vs : List Int} {pf pv : Option Addr} {cf cv : Nat} (w : World) (h : PNode w b o x) (hf : RdI w pf fr) (hv : RdI w pv vs) (ha : x.kind = 1 → 0 ≤ x.a ∧ x.a < (fr.length : Int)) (hs : ∀ f ∈ x.src, 0 ≤ f ∧ f < (vs.length : Int)) (hl : x.src.length ≤ 1048576) :
    Calls Try.prog 40 #[.pointer (some ⟨b, o, none⟩), .slice pf fr.length cf, .slice pv vs.length cv] w fun e w' => ∃ v, e = .returned v ∧ OwnI w.heap.size w' v (inF x fr vs) ∧ Below w.heap.size w w' := by
  obtain ⟨c0, c1, -, q, d, c3, hr⟩ := h
  by_cases hk : x.kind = 1
  · obtain ⟨a0, a1⟩ := ha hk
    obtain ⟨j, hj⟩ := Int.eq_ofNat_of_zero_le a0
    have hjl : j < fr.length := by omega
    have HI : Hid (inF x fr vs = [fr[j]]) := by unfold Hid inF; rw [if_pos hk, hj, Int.toNat_natCast, getD_at2 hjl]
    obtain ⟨bf, of_, rfl, hbf, hcf⟩ := hf.pos hjl
    have hcj := hcf j hjl
    rw [hj] at c1
    generalize fr[j] = y at hcj HI
    have hq : (x.kind == 1) = true := by rw [beq_iff_eq]; exact hk
    have hlit := OwnI.lit (B := w.heap.size) w [y] (Nat.le_refl _) (by simp [maxLen])
    have hB := (Below.refl w.heap.size w).alloc (Nat.le_refl _) (.cells #[.int .i64 y] 2)
    have hfl := hf.len
    unfold maxLen at hfl
    clear hcf hf hk hj a0 a1 ha
    go_enter Try.func40, Try.ntmps40
    go_wp2_with fail
    go_ret
    exact ⟨_, rfl, by rw [HI.out]; exact hlit, hB⟩
  · have HI : Hid (inF x fr vs = mapL vs x.src) := by unfold Hid inF; rw [if_neg hk]
    have hq : (x.kind == 1) = false := by rw [beq_eq_false_iff_ne]; exact hk
    have MP := Lib.hid (l07Map_any (c := d) (d := cv) w hr hv hl hs)
    clear hk ha hs hf hr
    go_enter Try.func40, Try.ntmps40
    go_wp2_with fail
    refine MP.out.mono ?_
    rintro e w1 ⟨v, rfl, hv1, hb1⟩
    obtain ⟨pp, cc, rfl, -⟩ := hv1.rd
    go_wp2_with fail
    go_ret
    exact ⟨_, rfl, by rw [HI.out]; exact hv1, hb1⟩
set_option maxHeartbeats 4000000 in
set_option maxRecDepth 100000 in
theorem l08Values_any {gp gs : Nat} {x : PatchD} {st : List (List Int)} {os fr : List Int} {po pf q : Option Addr} {co cf d : Nat} (w : World) (h : PPatch w gp x) (ho : RdI w po os) (hom : ∀ o ∈ os, 0 ≤ o ∧ o < (x.nodes.length : Int)) (hs : Box w gs [.slice q st.length d] 37) (hst : RdII w q st) (hf : RdI w pf fr) (ok : FrOk x st fr) :
    Calls Try.prog 23 #[.pointer (some ⟨gp, 0, none⟩), .slice po os.length co, .pointer (some ⟨gs, 0, none⟩), .slice pf fr.length cf] w fun e w' => ∃ v, e = .returned v ∧ OwnI w.heap.size w' v (valsF x st fr os) ∧ Below w.heap.size w w' := by
  obtain ⟨p1, c1, p2, c2, p3, c3, bx, r1, r2, -⟩ := h
  have hn24 : x.nodes.length ≤ 24 := (formed_iff.1 ok.f).2.2.1
  have hol := ho.len
  have hfl := hf.len
  unfold maxLen at hol hfl
  have hmk := fun W => run_make_row' (P := Try.prog) 24 2 (.int .i64 0) 8 Try.underlying24 infoI rfl .i64 .i64 x.nodes.length (by omega) (by omega) W
  have h0 := OwnI.made (B := w.heap.size) w x.nodes.length (Nat.le_refl _) (by unfold maxLen; omega)
  have hB0 := (Below.refl w.heap.size w).alloc (Nat.le_refl _) (.cells (madeCells #[.int .i64 0] x.nodes.length) 2)
  have HOK := Lib.hid ok
  have HOM := Lib.hid hom
  have z2 := bx.cell 2 rfl
  have lgp := bx.lt
  have lgs := hs.lt
  clear ok hom
  go_enter Try.func23, Try.ntmps23
  go_wp2_with fail
  go_loopw [10] (fun i wr => ∃ k : Nat, k ≤ os.length ∧ i = .int .i64 k ∧ OwnI w.heap.size wr (.slice (some ⟨w.heap.size, 0, none⟩) x.nodes.length x.nodes.length) (valsF x st fr (os.take k)) ∧ Below w.heap.size w wr) (fun i _ => os.length - (intOf i).toNat)
  case atStart => exact ⟨0, Nat.zero_le _, rfl, by simpa [valsF] using h0, hB0⟩
  case round =>
    obtain ⟨k, hk, rfl, hown, hbel⟩ := hrel
    clear h0 hB0 z2 hmk
    obtain ⟨wi, rfl⟩ : ∃ wi : World, wi = wr := ⟨_, rfl⟩
    by_cases hlt : k < os.length
    · obtain ⟨ob, oo, rfl, hobl, hoc⟩ := (ho.below hbel).pos hlt
      have hok := hoc k hlt
      have hmem := HOM.out _ (List.getElem_mem hlt)
      have HVT := Lib.hid (valsF_take (x := x) (st := st) (fr := fr) hlt)
      obtain ⟨m, hm⟩ : ∃ m : Nat, os[k] = m := ⟨os[k].toNat, by omega⟩
      rw [hm] at hok hmem HVT
      have hmn : m < x.nodes.length := by omega
      have hsm := valsF_smps HOK.out (os := os.take k) (fun o ho => HOM.out o (List.mem_of_mem_take ho))
      have hvl := valsF_length x st fr (os.take k)
      have hoo := (HOK.out.out hsm hmn).1
      have hnd := HOK.out.nd hmn
      have hsl : m < st.length := by rw [HOK.out.sl]; exact hmn
      have HVS : Hid (valsF x st fr (os.take (k + 1)) = (valsF x st fr (os.take k)).set m (outP x.nodes[m] x.tables (inF x.nodes[m] fr (valsF x st fr (os.take k))) (st.getD m []))) := by
        unfold Hid
        rw [HVT.out, valS, Int.toNat_natCast, List.getD_eq_getElem?_getD (l := x.nodes), List.getElem?_eq_getElem hmn]; rfl
      clear HVT
      generalize valsF x st fr (os.take k) = vs at hown hvl hoo HVS
      obtain ⟨b, o, rfl, hbl, hc⟩ := r2.pos hmn
      have hnode := hc m hmn
      obtain ⟨b2, o2, q2, d2, rfl, hb2, hrow, hrr⟩ := hst.at0 hsl
      have hnl : x.nodes[m].src.length ≤ 1048576 := by
        have h1 := hnd.1
        rw [nodeB_split] at h1
        simp only [Bool.and_eq_true, beq_iff_eq] at h1
        have := kAr_le3' h1.1
        have := h1.2.2.1
        omega
      generalize x.nodes[m] = nd at hnode hoo hnd HVS hnl
      generalize st.getD m [] = row at hrow hrr hoo HVS
      generalize hins : inF nd fr vs = ins at hoo HVS
      generalize hy : outP nd x.tables ins row = y at HVS
      obtain ⟨-, hrv⟩ := hown.rd_at2
      have IN : Hid (∀ W, Below wi.heap.size wi W → Calls Try.prog 40 #[.pointer (some ⟨b, o + m * 4, none⟩), .slice pf fr.length cf, .slice (some ⟨w.heap.size, 0, none⟩) x.nodes.length x.nodes.length] W fun e w' => ∃ v, e = .returned v ∧ OwnI W.heap.size w' v ins ∧ Below W.heap.size W w') := fun W hW => by
        have hwW := hbel.trans (hW.mono hbel.size)
        have := l08In_any (x := nd) (vs := vs) (cf := cf) (cv := x.nodes.length) W (hnode.below hwW) (hf.below hwW) (hrv.below hW) hnd.2.1 (by rw [hvl]; exact hnd.2.2) hnl
        rw [hins, hvl] at this
        exact this
      have OUT : Hid (∀ W ip ic, Below w.heap.size w W → RdI W ip ins → Calls Try.prog 39 #[.pointer (some ⟨b, o + m * 4, none⟩), .slice p1 x.tables.length c1, .slice ip ins.length ic, .slice q2 row.length d2] W fun e w' => e = .returned (.int .i64 y) ∧ Below W.heap.size W w') := fun W ip ic hW hi => by
        rw [← hy]
        exact l06Out_any (ct := c1) (cx := ic) (cs := d2) W (hnode.below hW) (r1.below hW) hi (hrr.below hW) hoo
      have CK : Hid (∀ W, Below w.heap.size w W → W.cell? ⟨gp, 1, none⟩ = some (.slice p1 x.tables.length c1) ∧ W.cell? ⟨gs, 0, none⟩ = some (.slice (some ⟨b2, o2, none⟩) st.length d) ∧ W.cell? ⟨b2, o2 + m, none⟩ = some (.slice q2 row.length d2)) := fun W hW => ⟨(bx.below hW).cell 1 rfl, (hs.below hW).cell 0 rfl, (hW.cell (p := ⟨b2, o2 + m, none⟩) hb2).trans hrow⟩
      have z2 := (bx.below hbel).cell 2 rfl
      have t1 := (CK.out wi hbel).1
      have t2 := (CK.out wi hbel).2.1
      have t3 := (CK.out wi hbel).2.2
      have hcur := belowDrew wi
      have hBW : Below w.heap.size w wi.drew := ⟨hbel.os, hbel.tape, hbel.output, hbel.size, hbel.block⟩
      have hBs := hbel.size
      have HVL := Lib.hid hvl
      clear hoc hc hins hy hrv hnode hnd hoo hrow hm hmem hsm hvl hnl
      go_wp2_with fail
      go_region_held3 (fun W => W.cell? ⟨gp, 1, none⟩ = some (.slice p1 x.tables.length c1) ∧ W.cell? ⟨gs, 0, none⟩ = some (.slice (some ⟨b2, o2, none⟩) st.length d) ∧ W.cell? ⟨b2, o2 + m, none⟩ = some (.slice q2 row.length d2)) (first | go_keep | exact CK.out _ (by (repeat (first | exact Below.refl _ _ | assumption | refine Below.setCell ?_ (by first | exact Nat.le_refl _ | omega | (simp; done) | (simp; omega)) _ | refine Below.alloc ?_ (by first | exact Nat.le_refl _ | omega | (simp; done) | (simp; omega)) _ | refine below_drewN ?_ _)))) (first | (go_at_call 40; refine (IN.out _ hcur).mono ?_; rintro e W2 ⟨v, rfl, hv, hb⟩; obtain ⟨ip, ic, rfl, hri⟩ := hv.rd; have hcur := hcur.trans (hb.mono hcur.size); have hBW := hBW.trans (hb.mono hBW.size)) | (go_at_call 39; refine (OUT.out _ ip ic hBW hri).mono ?_; rintro e W3 ⟨rfl, hb⟩; have hcur := hcur.trans (hb.mono hcur.size); have hBW := hBW.trans (hb.mono hBW.size); have hown3 := hown.below hcur; obtain ⟨-, -, hDl, hzm, hfz, hst3⟩ := hown3.storing (k := m) (by rw [HVL.out]; exact hmn); have hset := Lib.hid hst3; clear hst3))
      all_goals
        have hvs := hset.out y
        rw [← HVS.out] at hvs
        have hBf : Below w.heap.size w (W3.setCell ⟨w.heap.size, m, none⟩ (.int .i64 y)) := by (repeat (first | exact Below.refl _ _ | assumption | refine Below.setCell ?_ (by first | exact Nat.le_refl _ | omega | (simp; done) | (simp; omega)) _ | refine Below.alloc ?_ (by first | exact Nat.le_refl _ | omega | (simp; done) | (simp; omega)) _ | refine below_drewN ?_ _))
        go_wp2_with fail
        go_roundw
        case rel => exact ⟨k + 1, by omega, by go_num, hvs, hBf⟩
        case measure => simp [intOf] <;> omega
    · obtain rfl : k = os.length := by omega
      rw [List.take_length] at hown
      go_wp2_with fail
      go_ret
      exact ⟨_, rfl, hown, hbel⟩
/-! ### NodeValues -/
def frCode (x : PatchD) (s : StateD) (fr : List Int) : Int := if vsB x s then (if decide ((fr.length : Int) = x.inputs) && fr.all isSmp then 0 else 2) else 1
def nvRes (x : PatchD) (s : StateD) (fr : List Int) : List Int := if frCode x s fr = 0 then valsF x s.rows fr (orderL x.nodes) else []
theorem nvRes_small (x : PatchD) (s : StateD) (fr : List Int) : cntI (nvRes x s fr) ≤ 1048576 := by
  unfold cntI nvRes
  split
  · rename_i h
    rw [valsF_length]
    unfold frCode at h
    split at h
    · rename_i h1
      unfold vsB okB at h1
      simp only [Bool.and_eq_true] at h1
      have := (formed_iff.1 h1.1.1).2.2.1
      omega
    · omega
  · simp
theorem frCode_ok {x : PatchD} {s : StateD} {fr : List Int} (h : frCode x s fr = 0) : okB x = true ∧ FrOk x s.rows fr := by
  unfold frCode at h
  split at h
  · rename_i h1
    split at h
    · rename_i h2
      unfold vsB at h1
      simp only [Bool.and_eq_true, decide_eq_true_eq] at h1 h2
      have hk := h1.1
      unfold okB at hk
      rw [Bool.and_eq_true] at hk
      exact ⟨h1.1, FrOk.of hk.1 h1.2 h2.1 h2.2⟩
    · omega
  · omega
def RetN1 (w : World) (L : List Int) (code : Int) (e : Ending) (w' : World) : Prop := ∃ u M, e = .returned (.tuple #[u, .int .i64 code]) ∧ OwnLI w.heap.size w' u L M ∧ Dis M ∧ Below w.heap.size w w'
theorem RetN1.mk {w w' : World} {L : List Int} {code : Int} {u : Value} {B : Nat} (h : OwnI B w' u L) (hB : w.heap.size ≤ B) (hb : Below w.heap.size w w') : RetN1 w L code (.returned (.tuple #[u, .int .i64 code])) w' :=
  ⟨u, [u], rfl, ⟨h.mono hB, rfl⟩, List.pairwise_singleton _ _, hb⟩
theorem OwnI.none1 (B : Nat) (w : World) : OwnI B w (.slice none 0 0) [] := World.ownsRow_nil w B _ 1
set_option maxHeartbeats 1600000 in
theorem l08Frame_any {g g' : Nat} {x : PatchD} {s : StateD} {fr : List Int} {q1 pf : Option Addr} {d1 cf : Nat} (w : World) (h : PPatch w g x) (hs : Box w g' [.slice q1 s.rows.length d1] 37) (s1 : RdII w q1 s.rows) (hf : RdI w pf fr) :
    Calls Try.prog 21 #[.pointer (some ⟨g, 0, none⟩), .pointer (some ⟨g', 0, none⟩), .slice pf fr.length cf] w fun e w' => e = .returned (.int .i64 (frCode x s fr)) ∧ Below w.heap.size w w' := by
  have OK := Lib.hid (l08Ok_any w h hs s1)
  have hfl := hf.len
  unfold maxLen at hfl
  have HR : Hid (∀ b, vsB x s = b → frCode x s fr = if b then (if decide ((fr.length : Int) = x.inputs) && fr.all isSmp then 0 else 2) else 1) := fun b hb => by unfold frCode; rw [hb]
  generalize frCode x s fr = R at HR ⊢
  have HIN : Hid (vsB x s = true → x.inputs ≤ 4) := fun hb => by
    unfold vsB okB at hb
    simp only [Bool.and_eq_true] at hb
    exact (formed_iff.1 hb.1.1).1.2
  obtain ⟨p1, c1, p2, c2, p3, c3, bx, -, -, -⟩ := h
  cases hv : vsB x s
  case false =>
    rw [hv] at OK
    obtain rfl : R = 1 := HR.out _ hv
    clear HR HIN
    go_enter Try.func21, Try.ntmps21
    go_wp2_with fail
    refine OK.out.mono ?_
    rintro e W1 ⟨rfl, hb1⟩
    go_wp2_with fail
    go_ret
    exact ⟨rfl, hb1⟩
  rw [hv] at OK
  have HR1 := Lib.hid (HR.out _ hv)
  have hin := HIN.out hv
  clear HR HIN hv
  go_enter Try.func21, Try.ntmps21
  go_wp2_with fail
  refine OK.out.mono ?_
  rintro e W1 ⟨rfl, hb1⟩
  have z0 := (bx.below hb1).cell 0 rfl
  by_cases h1 : (fr.length : Int) = x.inputs
  case neg =>
    have q1 : ((fr.length : Int) != x.inputs) = true := by rw [bne_iff_ne]; exact h1
    obtain rfl : R = 2 := by rw [HR1.out, decide_eq_false h1]; rfl
    clear h1
    go_wp2_with fail
    go_ret
    exact ⟨rfl, hb1⟩
  have q1 : ((fr.length : Int) != x.inputs) = false := by rw [bne_eq_false_iff_eq]; exact h1
  have LX := Lib.hid (l03Ok_any (c := cf) W1 (hf.below hb1))
  rw [decide_eq_true (show fr.length ≤ 4000 by omega), Bool.true_and] at LX
  have HR2 : Hid (∀ b, fr.all isSmp = b → R = if b then 0 else 2) := fun b hb => by rw [HR1.out, decide_eq_true h1, hb]; rfl
  generalize fr.all isSmp = b at LX HR2
  obtain rfl := HR2.out b rfl
  clear h1 HR1 HR2
  cases b
  all_goals
    go_wp2_with fail
    refine LX.out.mono ?_
    rintro e W2 ⟨rfl, hd⟩
    have hd2 : Below W1.heap.size W1 W2 := by first | exact hd | exact hd.below _ | (obtain rfl := hd; exact Below.refl _ _)
    clear hd
    go_wp2_with fail
    go_ret
    exact ⟨rfl, hb1.trans (hd2.mono hb1.size)⟩
set_option maxHeartbeats 1600000 in
set_option maxRecDepth 100000 in
theorem specNodeValues_v {v v1 v2 : Value} {x : PatchD} {s : StateD} {fr : List Int} (w : World) (h : VPatch w v x) (h1 : VState w v1 s) (h2 : VI w v2 fr) :
    Calls Try.prog 6 #[v, v1, v2] w (RetN1 w (nvRes x s fr) (frCode x s fr)) := by
  obtain ⟨p1, c1, p2, c2, p3, c3, rfl, hp⟩ := PPatch.of h
  obtain ⟨q1, d1, rfl, s1⟩ := h1
  obtain ⟨pf, cf, rfl, rf⟩ := h2
  have hBa : Below w.heap.size w (w.alloc (.cells #[.int .i64 x.inputs, .slice p1 x.tables.length c1, .slice p2 x.nodes.length c2, .slice p3 x.outputs.length c3] 35)) := (Below.refl _ _).alloc (Nat.le_refl _) _
  obtain ⟨g, hg⟩ : ∃ g, g = w.heap.size := ⟨_, rfl⟩
  obtain ⟨E0, hE0⟩ : ∃ E, E = (w.alloc (.cells #[.int .i64 x.inputs, .slice p1 x.tables.length c1, .slice p2 x.nodes.length c2, .slice p3 x.outputs.length c3] 35)).alloc (.cells #[.slice q1 s.rows.length d1] 37) := ⟨_, rfl⟩
  have hB0 : Below w.heap.size w E0 := by rw [hE0]; exact hBa.alloc (by simp) _
  have hBb : Below (w.alloc (.cells #[.int .i64 x.inputs, .slice p1 x.tables.length c1, .slice p2 x.nodes.length c2, .slice p3 x.outputs.length c3] 35)).heap.size (w.alloc (.cells #[.int .i64 x.inputs, .slice p1 x.tables.length c1, .slice p2 x.nodes.length c2, .slice p3 x.outputs.length c3] 35)) E0 := by rw [hE0]; exact (Below.refl _ _).alloc (Nat.le_refl _) _
  have hp0 : PPatch E0 g x := by rw [hg]; exact hp.below hBb
  have bs : Box E0 (g + 1) [.slice q1 s.rows.length d1] 37 := by rw [hE0, hg]; exact Box.newAt (w.alloc _) _ _ (by simp)
  have FC := Lib.hid (l08Frame_any (cf := cf) E0 hp0 bs (s1.below hB0) (rf.below hB0))
  have HE := Lib.hid hE0
  have HG := Lib.hid hg
  have HN : Hid (nvRes x s fr = if frCode x s fr = 0 then valsF x s.rows fr (orderL x.nodes) else []) := rfl
  have HK := Lib.hid (frCode_ok (x := x) (s := s) (fr := fr))
  generalize nvRes x s fr = RN at HN ⊢
  generalize frCode x s fr = RC at HN HK FC ⊢
  clear hp h hE0 hg hBa hBb
  by_cases hc : RC = 0
  case neg =>
    have q0 : (RC != 0) = true := by rw [bne_iff_ne]; exact hc
    obtain rfl : RN = [] := by rw [HN.out, if_neg hc]
    clear hc
    go_enter Try.func6, Try.ntmps6
    go_upto_region 1 with fail
    rw [← HE.out, ← HG.out]
    go_wp2_with fail
    refine FC.out.mono ?_
    rintro e W1 ⟨rfl, hb1⟩
    go_wp2_with fail
    refine bodyPost_ret (v := .tuple #[.slice none 0 0, .int .i64 RC]) (by simp [results, Try.results6, go_sem, *]) rfl ?_
    exact RetN1.mk (OwnI.none1 _ _) (Nat.le_refl _) (hB0.trans (hb1.mono hB0.size))
  subst hc
  obtain ⟨hok, fok⟩ := HK.out rfl
  obtain rfl : RN = valsF x s.rows fr (orderL x.nodes) := by rw [HN.out, if_pos rfl]
  have HO := Lib.hid (fun W (hW : Below E0.heap.size E0 W) => l07Order_any W (hp0.below hW) fok.f)
  have HL : Hid ((orderL x.nodes).length = x.nodes.length) := by
    unfold okB at hok
    rw [Bool.and_eq_true, decide_eq_true_eq] at hok
    exact hok.2
  have VV : Hid (∀ W po co, Below E0.heap.size E0 W → RdI W po (orderL x.nodes) → Calls Try.prog 23 #[.pointer (some ⟨g, 0, none⟩), .slice po (orderL x.nodes).length co, .pointer (some ⟨g + 1, 0, none⟩), .slice pf fr.length cf] W fun e w' => ∃ v, e = .returned v ∧ OwnI W.heap.size w' v (valsF x s.rows fr (orderL x.nodes)) ∧ Below W.heap.size W w') := fun W po co hW ho =>
    l08Values_any (co := co) (cf := cf) W (hp0.below hW) ho orderL_mem (bs.below hW) (s1.below (hB0.trans (hW.mono hB0.size))) (rf.below (hB0.trans (hW.mono hB0.size))) fok
  clear HN HK hok fok
  generalize valsF x s.rows fr (orderL x.nodes) = VS at VV ⊢
  generalize orderL x.nodes = os at HO HL VV
  go_enter Try.func6, Try.ntmps6
  go_upto_region 1 with fail
  rw [← HE.out, ← HG.out]
  go_wp2_with fail
  refine FC.out.mono ?_
  rintro e W1 ⟨rfl, hb1⟩
  go_wp2_with fail
  refine (HO.out W1 hb1).mono ?_
  rintro e W2 ⟨u, rfl, ho, hb2⟩
  rw [if_pos HL.out] at ho
  rw [decide_eq_true HL.out]
  obtain ⟨po, co, rfl, hro⟩ := ho.rd
  have hb12 := hb1.trans (hb2.mono hb1.size)
  go_wp2_with fail
  refine (VV.out W2 po co hb12 hro).mono ?_
  rintro e W3 ⟨u3, rfl, hu3, hb3⟩
  obtain ⟨p4, c4, rfl, -⟩ := hu3.rd
  have hb13 := hb12.trans (hb3.mono hb12.size)
  go_wp2_with fail
  refine bodyPost_ret (v := .tuple #[.slice p4 VS.length c4, .int .i64 0]) (by simp [results, Try.results6, go_sem, *]) rfl ?_
  exact RetN1.mk hu3 (Nat.le_trans hB0.size hb12.size) (hB0.trans (hb13.mono hB0.size))
end Go.Proofs.Ytbjpianbeebmeab
