/-
  The walk of the law on determinants.
-/
import Derived.Test.YtmfahnkcfcmhiaaDetW
namespace Go.Proofs.Ytmfahnkcfcmhiaa
open Go.ChangeShapes Go.WideShapes Go.ChangeAt Go.RowKit
set_option linter.unusedVariables false
set_option linter.unusedSimpArgs false

set_option maxHeartbeats 16000000 in
set_option maxRecDepth 100000 in
theorem fnDeterminant_walk (w : World) {v0 : Value} {bs0 : List Int} (h0 : VB w v0 bs0) (hm0 : bs0.length ≤ maxLen) :
    Calls Try.prog 3 #[v0] w fun e w' => e = .returned (.bool true) ∧ Below w.heap.size w w' := by
  have hv0 := h0
  obtain ⟨p0, c0, rfl, -⟩ := hv0
  unfold maxLen at hm0
  by_cases hl : (1048576 : Int) < (bs0.length : Int)
  · clear h0
    go_enter Try.func3, Try.ntmps3
    go_wp2_with fail
    go_ret
    exact ⟨rfl, Below.refl _ _⟩
  have l0 : bs0.length ≤ 1048576 := by omega
  have E8 := Lib.hid (e8Matrices_any w h0 l0)
  clear h0 hm0
  go_enter Try.func3, Try.ntmps3
  go_wp2_with fail
  refine E8.out.mono ?_
  rintro e w1 ⟨u, v, a, b, La, Lb, rfl, ma, mb, hab, hn, oa, ob, hb1⟩
  clear E8 hl l0
  obtain ⟨pa, ca, rfl, hra⟩ := oa.rdv
  obtain ⟨pb, cb, rfl, hrb⟩ := ob.rdv
  have va : VII w1 (.slice pa a.length ca) a := ⟨_, _, rfl, hra⟩
  have vb : VII w1 (.slice pb b.length cb) b := ⟨_, _, rfl, hrb⟩
  have hbB := hb1
  clear oa ob hra hrb hb1
  obtain ⟨mM, dM⟩ := det_law ma mb hab hn
  obtain ⟨LL1, LL2⟩ := last_law ma
  have HH := Lib.hid (horn_law ma hn)
  have HM := Lib.hid (fun k hk => horn_matB (a := a) (by omega) k hk)
  have MC := implMulMatrix_v w1 va vb
  rw [show mulRes a b = mulM a b by unfold mulRes; rw [ma, mb]; simp [hab], show mulCode a b = 0 by unfold mulCode; rw [ma, mb]; simp [hab]] at MC
  have DA := fun W h => implDeterminant_v (v := .slice pa a.length ca) (a := a) W h
  have DB := fun W h => implDeterminant_v (v := .slice pb b.length cb) (a := b) W h
  have CA := fun W h => implCharPoly_v (v := .slice pa a.length ca) (a := a) W h
  have DM := fun W v h => implDeterminant_v (v := v) (a := mulM a b) W h
  rw [show chpCode a = 0 by unfold chpCode; rw [ma]; rfl] at DA CA
  rw [show chpCode b = 0 by unfold chpCode; rw [mb]; rfl] at DB
  rw [show chpCode (mulM a b) = 0 by unfold chpCode; rw [mM]; rfl, dM] at DM
  have VM := fun W p c h => specValidMatrix_any (p := p) (c := c) (xss := mulM a b) W h
  rw [mM] at VM
  have mLen : (mulM a b).length = a.length := by simp [mulM]
  rw [mLen] at VM
  have VMM : Hid (∀ W p, VII W p (mulM a b) → Calls Try.prog 7 #[p] W fun e w' => e = .returned (.bool true) ∧ W = w') := by
    rintro W _ ⟨p, c, rfl, h⟩
    rw [mLen]
    exact VM W p c h
  have MC' := Lib.hid MC
  clear MC
  have MC := MC'
  clear MC'
  have DA' := Lib.hid DA
  clear DA
  have DA := DA'
  clear DA'
  have DB' := Lib.hid DB
  clear DB
  have DB := DB'
  clear DB'
  have CA' := Lib.hid CA
  clear CA
  have CA := CA'
  clear CA'
  have DM' := Lib.hid DM
  clear DM
  have DM := DM'
  clear DM'
  have PG := Lib.hid (fun m k (h : m + k = a.length) hk => chpRes_get ma h hk)
  have HAB := Lib.hid hab
  have MA := Lib.hid ma
  have LP := Lib.hid LL2
  have PL := chp_head a a.length
  have LL1' := Lib.hid LL1
  clear LL1
  have LL1 := LL1'
  clear LL1'
  clear dM VM hab mLen mb LL2
  obtain ⟨x, hx⟩ : ∃ x, x = detVal a := ⟨_, rfl⟩
  obtain ⟨y, hy⟩ : ∃ y, y = detVal b := ⟨_, rfl⟩
  rw [← hx] at DA DM LL1
  rw [← hy] at DB DM
  clear hx hy
  clear ma mM
  go_wp2_with fail
  refine MC.out.mono ?_
  rintro e w2 ⟨um, Lm, rfl, om, -, hb⟩
  clear MC
  have vm := om.rdv
  replace va := va.below hb
  replace vb := vb.below hb
  have hB2 := hbB.trans (hb.mono hbB.size)
  clear om hb hbB
  go_wp2_with fail
  refine (DA.out _ va).mono ?_
  rintro e w3 ⟨rfl, hb⟩
  clear DA
  replace va := va.below hb
  replace vb := vb.below hb
  replace vm := vm.below hb
  have hB3 := hB2.trans (hb.mono hB2.size)
  clear hb hB2
  go_wp2_with fail
  refine (DB.out _ vb).mono ?_
  rintro e w4 ⟨rfl, hb⟩
  clear DB
  replace va := va.below hb
  replace vm := vm.below hb
  have hB4 := hB3.trans (hb.mono hB3.size)
  clear hb hB3 vb
  go_wp2_with fail
  refine (VMM.out _ _ vm).mono ?_
  rintro e w' ⟨rfl, rfl⟩
  clear VMM
  go_wp2_with fail
  refine (DM.out _ _ vm).mono ?_
  rintro e w5 ⟨rfl, hb⟩
  clear DM
  replace va := va.below hb
  have hB5 := hB4.trans (hb.mono hB4.size)
  clear hb hB4 vm
  go_wp2_with fail
  refine (CA.out _ va).mono ?_
  rintro e w6 ⟨up, Lp, rfl, op, -, hb⟩
  clear CA
  replace va := va.below hb
  have hB6 := hB5.trans (hb.mono hB5.size)
  obtain ⟨pp, cp, hup, hrp⟩ := op.rd
  rw [LP.out] at hup
  subst hup
  clear hb hB5 op
  obtain ⟨bp, o, rfl, hbp, hcp⟩ := hrp.pos (k := a.length) (by rw [LP.out]; omega)
  have PC : Hid (∀ W, Below w6.heap.size w6 W → ∀ m k, m + k = a.length → W.cell? ⟨bp, o + k, none⟩ = some (.int .i64 ((chp a a.length).getD m 0))) := fun W hW m k h => by
    rw [hW.cell (p := ⟨bp, o + k, none⟩) hbp, hcp k (by rw [LP.out]; omega), PG.out m k h (by rw [LP.out]; omega)]
  have PX : (chp a a.length).getD a.length 0 = smp ((if a.length % 2 = 1 then -1 else 1) * x) := by
    have h1 := PG.out a.length 0 (by omega) (by rw [LP.out]; omega)
    rw [← h1, ← LL1.out, List.getD_eq_getElem?_getD, List.getElem?_eq_getElem (by rw [LP.out]; omega)]
    rfl
  have c0 := PC.out w6 (Below.refl _ _) a.length 0 (by omega)
  have c1 := PC.out w6 (Below.refl _ _) 0 a.length (by omega)
  rw [PL] at c1
  rw [PX, Nat.add_zero] at c0
  clear hcp LL1 PG PX PL hrp
  obtain ⟨pa', ca', hpe, hra⟩ := va
  simp only [Value.slice.injEq, true_and] at hpe
  obtain ⟨rfl, rfl⟩ := hpe
  have va : VII w6 (.slice pa a.length ca) a := ⟨_, _, rfl, hra⟩
  have WMx := Lib.hid (wrapMul_any x y)
  have hB : Hid (Below w.heap.size w w6) := hB6
  clear hra
  obtain ⟨sg, hsg⟩ : ∃ sg : Int, sg = if a.length % 2 = 1 then -1 else 1 := ⟨_, rfl⟩
  rw [← hsg] at c0
  have WMs := Lib.hid (wrapMul_any sg x)
  generalize smp (sg * x) = r at c0 WMs
  have CASE : (((a.length : Int) % 2 == 1) = true ∧ sg = -1) ∨ (((a.length : Int) % 2 == 1) = false ∧ sg = 1) := by
    by_cases hodd : a.length % 2 = 1
    · exact .inl ⟨by rw [odd_emod]; exact decide_eq_true hodd, by rw [hsg, if_pos hodd]⟩
    · exact .inr ⟨by rw [odd_emod]; exact decide_eq_false hodd, by rw [hsg, if_neg hodd]⟩
  clear hsg
  have HN := Lib.hid hn
  rcases CASE with ⟨h2, rfl⟩ | ⟨h2, rfl⟩
  all_goals
    go_wp2_with (go_at_call 9; refine (WMx.out _).mono ?_; rintro e w' ⟨rfl, rfl⟩)
    go_quiet ((go_at_call 9; exact Calls.quiet_of_same (Calls.flip (WMs.out _))))
    clear c0 c1 h2 WMs WMx
    generalize hw7 : w6.drewN _ = w7
    have hb7 : Below w6.heap.size w6 w7 := by rw [← hw7]; exact below_drewN (Below.refl _ _) _
    clear hw7
    replace va := va.below hb7
    replace PC : Hid (∀ W, Below w7.heap.size w7 W → ∀ m k, m + k = a.length → W.cell? ⟨bp, o + k, none⟩ = some (.int .i64 ((chp a a.length).getD m 0))) := fun W hW => PC.out W (hb7.trans (hW.mono hb7.size))
    have hbp7 : bp < w7.heap.size := Nat.lt_of_lt_of_le hbp hb7.size
    replace hB : Hid (Below w.heap.size w w7) := hB.out.trans (hb7.mono hB.out.size)
    clear hb7 hbp
    have r0 := OwnII.empty (B := w7.heap.size) w7 (Nat.le_refl _)
    have rb := (Below.refl w7.heap.size w7).alloc (Nat.le_refl _) (.cells #[] 31)
    have hmk := fun w => run_make_row' (P := Try.prog) 31 2 (.int .i64 0) 8 Try.underlying31 infoI rfl .i64 .i64 a.length (by omega) (by omega) w
    go_wp2_with fail
    go_loopw [16, 17] (fun v i wr => ∃ (k : Nat) (L : List Value), k ≤ a.length ∧ i = .int .i64 (k : Int) ∧ OwnII w7.heap.size wr v (List.replicate k (List.replicate a.length 0)) L ∧ Below w7.heap.size w7 wr) (fun _ i _ => a.length - (intOf i).toNat)
    case atStart => exact ⟨0, [], Nat.zero_le _, rfl, r0, rb⟩
    case round =>
      obtain ⟨k, L, hk, rfl, hown, hb⟩ := hrel
      obtain ⟨wi, rfl⟩ : ∃ wi : World, wi = wr := ⟨_, rfl⟩
      clear r0 rb
      by_cases hlt : k < a.length
      · have hsz := hb.size
        have hrow := OwnI.made (B := w7.heap.size) wi a.length hsz (by unfold maxLen; omega)
        have hlen : L.length < 1099511627776 := by have := hown.2.1.1; rw [List.length_replicate] at this; omega
        have hown1 := hown.below ((Below.refl wi.heap.size wi).alloc (Nat.le_refl _) (.cells (madeCells #[.int .i64 0] a.length) 2))
        have hb1 : Below w7.heap.size w7 (wi.alloc (.cells (madeCells #[.int .i64 0] a.length) 2)) := hb.alloc hsz _
        have hz1 : w7.heap.size ≤ (wi.alloc (.cells (madeCells #[.int .i64 0] a.length) 2)).heap.size := hb1.size
        have hnew : Hid (∀ b, (Value.slice (some ⟨wi.heap.size, 0, none⟩) a.length a.length).ownBlock = some b → ¬ Blk L b) := fun b hb' hbk => by
          simp only [Value.ownBlock, Option.some.injEq] at hb'
          have := (hown.2.1.blk hbk).2.1; omega
        obtain ⟨E1, hE1⟩ : ∃ E, E = wi.alloc (.cells (madeCells #[.int .i64 0] a.length) 2) := ⟨_, rfl⟩
        rw [← hE1] at hown1 hb1 hz1 hrow
        have hE1' : wi.alloc (.cells (madeCells #[.int .i64 0] a.length) 2) = E1 := hE1.symm
        clear hb hown hE1
        go_wp2_with (first | (at_builtin; go_loud (refine wpList_append_val rfl _ _ rfl 24 (.slice none 0 0) Try.underlying23 infoII rfl (by omega) rfl hown1.1 rfl rfl hb1 hlen hz1 (Nat.le_refl _) ?_); intro v' w9 hown9 hbel9 _ hk9) | fail)
        clear hE1' hmk
        have hfin := hown1.snoc hrow hnew.out hown9 hk9
        rw [← List.replicate_succ'] at hfin
        have HF := Lib.hid hfin
        clear hfin hk9 hown9 hown1 hnew
        go_roundw
        case rel => exact ⟨k + 1, _, by omega, by go_num, HF.out, hbel9⟩
        case measure => simp [intOf] <;> omega
      · obtain rfl : k = a.length := by omega
        rw [← horn_zero] at hown
        clear hmk hlt hk
        go_wp2_with fail
        have HHown := Lib.hid hown
        have hb' := hb
        clear hown hb
        obtain ⟨wz, rfl⟩ : ∃ wz : World, wz = wi := ⟨_, rfl⟩
        go_loopw [16, 18] (fun v i wr => ∃ (m : Nat) (z : Int) (L : List Value), (z = -1 ∧ m = a.length + 1 ∨ ∃ d : Nat, z = d ∧ m + d = a.length) ∧ i = .int .i64 z ∧ OwnII w7.heap.size wr v (hornM a m) L ∧ Below w7.heap.size w7 wr) (fun _ i _ => (intOf i + 1).toNat)
        case atStart => exact ⟨0, a.length, L, .inr ⟨a.length, rfl, by omega⟩, rfl, HHown.out, hb'⟩
        case round =>
          obtain ⟨m, z, L, hz, rfl, hown, hb⟩ := hrel
          clear HHown hb'
          obtain ⟨wo, rfl⟩ : ∃ wo : World, wo = wr := ⟨_, rfl⟩
          have hza := hb.size
          rcases hz with ⟨rfl, rfl⟩ | ⟨d, rfl, hd⟩
          · rw [HH.out] at hown
            obtain ⟨pt, ct, rfl, hrt⟩ := hown.rd
            have hlr : (List.replicate a.length (List.replicate a.length (0 : Int))).length = a.length := List.length_replicate
            rw [hlr]
            clear hown
            go_wp2_with fail
            have HRT := Lib.hid hrt
            clear hrt hlr
            go_loop [22] (fun i => ∃ k : Nat, k ≤ a.length ∧ i = .int .i64 (k : Int)) (fun i => a.length - (intOf i).toNat)
            case atStart => exact ⟨0, Nat.zero_le _, rfl⟩
            case round =>
              obtain ⟨k, hk, rfl⟩ := hrel
              by_cases hlt : k < a.length
              · obtain ⟨bt, ot, rfl, -, hct⟩ := HRT.out.pos (k := k) (by rw [List.length_replicate]; exact hlt)
                obtain ⟨qt, dt, hq, hrq⟩ := hct k (by rw [List.length_replicate]; exact hlt)
                rw [List.getElem_replicate] at hq hrq
                have VZ := Lib.hid (v8Zeros_any (c := dt) wo hrq (fun x hx => List.eq_of_mem_replicate hx) (by rw [List.length_replicate]; have := HN.out; omega))
                rw [List.length_replicate] at hq VZ
                clear hct hrq
                go_wp2_with (go_at_call 12; refine VZ.out.mono ?_; rintro e w' ⟨rfl, rfl⟩)
                go_round
                case rel => exact ⟨k + 1, by omega, by go_num⟩
                case measure => simp [intOf] <;> omega
              · obtain rfl : k = a.length := by omega
                go_wp2_with fail
                go_ret
                exact ⟨rfl, hB.out.trans (hb.mono hB.out.size)⟩
          · have hdn : d ≤ a.length := by omega
            have hd0 : (0 : Int) ≤ (d : Int) := by omega
            have hmn : m ≤ a.length := by omega
            have HD := Lib.hid hd
            clear hd
            obtain ⟨mt, lt⟩ := HM.out m (by omega)
            have MS := Lib.hid (specMulMatrix_v wo hown.rdv (va.below (hb.mono (Nat.le_refl _))))
            rw [show mulRes (hornM a m) a = mulM (hornM a m) a by unfold mulRes; rw [mt, MA.out]; simp [lt], show mulCode (hornM a m) a = 0 by unfold mulCode; rw [mt, MA.out]; simp [lt]] at MS
            have HT : Hid (Sq a.length (hornM a m)) := by have := (matB_sq mt).1; rw [lt] at this; exact this
            clear mt lt
            have hown' := Lib.hid hown
            clear hown
            go_wp2_with fail
            refine MS.out.mono ?_
            rintro e wn ⟨un, Ln, rfl, on, -, hbn⟩
            clear MS
            rw [← hornD_zero HT.out ((chp a a.length).getD m 0)] at on
            go_wp2_with fail
            have hza2 : w7.heap.size ≤ wn.heap.size := Nat.le_trans hza hbn.size
            obtain ⟨pn, cn, hun, -⟩ := on.rd
            rw [hornD_length] at hun
            subst hun
            have ON := Lib.hid on
            clear on
            go_loopw [21] (fun i wr => ∃ (j : Nat), j ≤ a.length ∧ i = .int .i64 (j : Int) ∧ OwnII wo.heap.size wr (.slice pn a.length cn) (hornD a (hornM a m) ((chp a a.length).getD m 0) j) Ln ∧ Below wo.heap.size wo wr) (fun i _ => a.length - (intOf i).toNat)
            case atStart => exact ⟨0, Nat.zero_le _, rfl, ON.out, hbn⟩
            case round =>
              obtain ⟨j, hj, rfl, hon, hbj⟩ := hrel
              obtain ⟨wj, rfl⟩ : ∃ wj : World, wj = wr := ⟨_, rfl⟩
              by_cases hlt : j < a.length
              · have l1 : j < (hornD a (hornM a m) ((chp a a.length).getD m 0) j).length := by rw [hornD_length]; exact hlt
                have l2 : j < (hornD a (hornM a m) ((chp a a.length).getD m 0) j)[j].length := by rw [hornD_row]; exact hlt
                obtain ⟨q, c, g, cg, e1, cell1, cell2, fz, hBg, hgl, hst⟩ := hon.storing l1 l2
                simp only [Value.slice.injEq, hornD_length, true_and] at e1
                obtain ⟨rfl, rfl⟩ := e1
                rw [hornD_row] at cell1
                rw [hornD_get _ _ _ _ l1 l2] at cell2
                have HS := hornD_set a (hornM a m) ((chp a a.length).getD m 0) j l1
                have cell3 := PC.out wj (hb.trans (hbj.mono hza)) m d HD.out
                have hnx : Hid (OwnII wo.heap.size (wj.setCell ⟨g, j, none⟩ (.int .i64 (smp (dotN ((hornM a m).getD j []) (colL a j) a.length + (chp a a.length).getD m 0)))) (.slice (some ⟨q, 0, none⟩) a.length cn) (hornD a (hornM a m) ((chp a a.length).getD m 0) (j + 1)) Ln) := by
                  have := hst (smp (dotN ((hornM a m).getD j []) (colL a j) a.length + (chp a a.length).getD m 0))
                  rw [HS] at this
                  exact this
                clear HS hst hon l1 l2
                have HGL := Lib.hid hgl
                generalize dotN ((hornM a m).getD j []) (colL a j) a.length = yy at cell2 hnx
                generalize (chp a a.length).getD m 0 = zz at cell3 hnx ON ⊢
                have WA := Lib.hid (wrapAdd_any yy zz)
                have hq4 : (d : Int) < (a.length : Int) + 1 := by omega
                go_wp2_with fail
                refine wp_region_still_tail 18 (by kernel_rfl) (by kernel_rfl) ?_
                simp only [List.take_succ_cons, List.take_zero, List.drop_succ_cons, List.drop_zero]
                change wpStill _ _ (World.drew _) _ _ _
                repeat (first | still_step | (refine wpStill_step (fun K hK => ?_); go_simp; refine ⟨_, (by exact Calls.flip (WA.out _)), hK _ ?_⟩; clear hK K))
                refine wpStill_nil ?_
                change wpList _ _ _ _ _ (World.drew _)
                go_wp2_with fail
                go_roundw
                case rel => exact ⟨j + 1, by omega, by go_num, hnx.out, hbj.trans (below_drew' (Below.setCell (Below.refl _ _) hBg _))⟩
                case measure => simp [intOf] <;> omega
              · obtain rfl : j = a.length := by omega
                rw [hornD_full, ← horn_succ a (by omega)] at hon
                have HON := Lib.hid hon
                clear hon
                go_wp2_with fail
                go_roundw
                case rel =>
                  refine ⟨m + 1, (d : Int) - 1, Ln, ?_, by go_num, HON.out.mono hza, hb.trans (hbj.mono hza)⟩
                  have := HD.out
                  cases d with
                  | zero => exact .inl ⟨by simp, by omega⟩
                  | succ d => exact .inr ⟨d, by omega, by omega⟩
                case measure => simp [intOf] <;> omega
end Go.Proofs.Ytmfahnkcfcmhiaa
