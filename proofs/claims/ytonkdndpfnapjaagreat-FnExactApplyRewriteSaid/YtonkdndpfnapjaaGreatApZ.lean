/-
  Several texts in one: TyRewrite, ApW.
-/
import Derived.Test.YtonkdndpfnapjaaGreatTyBase
import Derived.Test.YtonkdndpfnapjaaGreatApY
namespace Go.Proofs.YtonkdndpfnapjaaGreat
open Go.ChangeShapes Go.WideShapes Go.ChangeAt Go.RowKit
set_option linter.unusedVariables false

structure RewriteD where
  rule : Int
  node : Int
def VRewrite (w : World) (v : Value) (x : RewriteD) : Prop := v = .agg #[.int .i64 x.rule, .int .i64 x.node]
set_option maxRecDepth 100000 in
theorem toRewrite_v {v : Value} {x : RewriteD} (w : World) (h : VRewrite w v x) :
    Calls Tryz.prog 13 #[v] w fun e w' => e = .returned (.agg #[.int .i64 x.rule, .int .i64 x.node]) ∧ Below w.heap.size w w' := by
  unfold VRewrite at h
  subst h
  go_enter Tryz.func13, Tryz.ntmps13
  go_wp2_with fail
  refine bodyPost_ret (v := .agg #[.int .i64 x.rule, .int .i64 x.node]) (by simp [results, Tryz.results13, go_sem, *]) rfl ?_
  exact ⟨rfl, (((Below.refl _ _).alloc (Nat.le_refl _) _).alloc (by simp) _).alloc (by simp; omega) _⟩
section
variable {H : Type} {enc : TypeId × Value → H} {W : World}
set_option maxRecDepth 100000 in
theorem open_Rewrite {r : Reach} {b0 : Nat} {v : Value} {d : DataW H} {ps : List MemPlace} (hval : Value.okWide Tryz.prog W r b0 37 v) (h : DataW.Trod enc Tryz.prog W 0 (fun _ => true) true 37 v d ps) : ∃ x, VRewrite W v x := by
  obtain ⟨l, rfl, hl, hf⟩ := open_fields Tryz.underlying37 (by kernel_rfl) (by kernel_rfl) hval h
  obtain ⟨a0, n0, y0, e0, t0⟩ := hf 0 _ rfl
  obtain ⟨a1, n1, y1, e1, t1⟩ := hf 1 _ rfl
  match l, hl with
  | [g0, g1], _ =>
    simp only [List.getElem?_cons_zero, List.getElem?_cons_succ, Option.some.injEq] at e0 e1
    subst e0 e1
    obtain ⟨m0, h0, -, -⟩ := DataW.trod_int Tryz.underlying2 t0
    obtain ⟨m1, h1, -, -⟩ := DataW.trod_int Tryz.underlying2 t1
    simp only [List.cons.injEq, and_true] at h0 h1
    subst h0 h1
    exact ⟨⟨m0, m1⟩, rfl⟩
end
end Go.Proofs.YtonkdndpfnapjaaGreat

namespace Go.Proofs.YtonkdndpfnapjaaGreat
open Go.ChangeShapes Go.WideShapes Go.ChangeAt Go.RowKit Go.Sort
set_option linter.unusedVariables false

def apOk (x : PatchD) (r n : Int) : Bool := inB n 0 ((x.nodes.length : Int) - 1) && (!(r == 0) && ruleP x n == r)
def apRes (x : PatchD) (r n : Int) : PatchD := if okB x then (if apOk x r n then afterP x n r else noPatch) else noPatch
def apCode (x : PatchD) (r n : Int) : Int := if okB x then (if apOk x r n then 0 else 3) else 1
theorem ap_bad {x : PatchD} {r n : Int} (h : okB x = false) : apRes x r n = noPatch ∧ apCode x r n = 1 := by
  unfold apRes apCode; rw [h]; exact ⟨rfl, rfl⟩
theorem ap_not {x : PatchD} {r n : Int} (h : okB x = true) (h' : apOk x r n = false) : apRes x r n = noPatch ∧ apCode x r n = 3 := by
  unfold apRes apCode; rw [h, h']; exact ⟨rfl, rfl⟩
theorem ap_yes {x : PatchD} {r n : Int} (h : okB x = true) (h' : apOk x r n = true) : apRes x r n = afterP x n r ∧ apCode x r n = 0 := by
  unfold apRes apCode; rw [h, h']; exact ⟨rfl, rfl⟩
theorem apRes_small (x : PatchD) (r n : Int) : cntPatch (apRes x r n) ≤ 6291456 := by
  have h0 : cntPatch noPatch ≤ 6291456 := cntPatch_small ⟨by simp [noPatch], by simp [noPatch], by simp [noPatch], by simp [noPatch], by simp [noPatch]⟩
  cases h : okB x
  · rw [(ap_bad h).1]; exact h0
  · cases h' : apOk x r n
    · rw [(ap_not h h').1]; exact h0
    · rw [(ap_yes h h').1]
      unfold apOk at h'
      simp only [Bool.and_eq_true, Bool.not_eq_true', beq_iff_eq, beq_eq_false_iff_ne] at h'
      obtain ⟨-, hr, he⟩ := h'
      obtain ⟨N, hN⟩ := fuel_some h
      have := (rewrite_step h (by rw [he]; exact hr) hN).1
      rw [he] at this
      exact cntPatch_small (formed_small (okB_formed this))
set_option maxHeartbeats 8000000 in
set_option maxRecDepth 100000 in
theorem specApplyRewrite_v {v : Value} {x : PatchD} {r n : Int} (w : World) (h : VPatch w v x) :
    Calls Tryz.prog 12 #[v, .agg #[.int .i64 r, .int .i64 n]] w (RetPC w (apRes x r n) (apCode x r n)) := by
  have hv := h
  obtain ⟨p1, c1, p2, c2, p3, c3, rfl, r1, r2, r3⟩ := h
  obtain ⟨g, hg⟩ : ∃ g, g = w.heap.size := ⟨_, rfl⟩
  obtain ⟨E, hE⟩ : ∃ E, E = ((w.alloc (.cells #[.int .i64 x.inputs, .slice p1 x.tables.length c1, .slice p2 x.nodes.length c2, .slice p3 x.outputs.length c3] 32)).alloc (.cells #[.int .i64 r, .int .i64 n] 40)).alloc (.cells #[.int .i64 0, .slice none 0 0, .slice none 0 0, .slice none 0 0] 32) := ⟨_, rfl⟩
  have hB0 : Below w.heap.size w E := by rw [hE]; exact (((Below.refl _ _).alloc (Nat.le_refl _) _).alloc (by simp) _).alloc (by simp; omega) _
  have bx : Box E g [.int .i64 x.inputs, .slice p1 x.tables.length c1, .slice p2 x.nodes.length c2, .slice p3 x.outputs.length c3] 32 := by rw [hE, hg]; exact ((Box.newAt w _ _ rfl).alloc _).alloc _
  have bw : Box E (g + 1) [.int .i64 r, .int .i64 n] 40 := by rw [hE, hg]; exact (Box.newAt (w.alloc _) [.int .i64 r, .int .i64 n] _ (by simp)).alloc _
  have br : Box E (g + 1 + 1) zPatch 32 := by rw [hE, hg]; exact Box.newAt ((w.alloc _).alloc _) _ _ (by simp)
  have HE := Lib.hid hE
  have HG := Lib.hid hg
  have i0 : w.heap.size ≤ g + 1 + 1 := by omega
  clear hE hg
  have fin : ∀ (W : World) (v1 v2 v3 : Value) (y : PatchD) (L1 L : List Value) (B : Nat) (code : Int), w.heap.size ≤ B → Below E.heap.size E W → OwnP B W v1 v2 v3 y.tables y.nodes y.outputs L1 L →
      (Box ((((W.setCell ⟨g + 1 + 1, 0, none⟩ (.int .i64 y.inputs)).setCell ⟨g + 1 + 1, 1, none⟩ v1).setCell ⟨g + 1 + 1, 2, none⟩ v2).setCell ⟨g + 1 + 1, 3, none⟩ v3) (g + 1 + 1) [.int .i64 y.inputs, v1, v2, v3] 32) ∧
      RetPC w y code (.returned (.tuple #[.agg #[.int .i64 y.inputs, v1, v2, v3], .int .i64 code])) ((((W.setCell ⟨g + 1 + 1, 0, none⟩ (.int .i64 y.inputs)).setCell ⟨g + 1 + 1, 1, none⟩ v1).setCell ⟨g + 1 + 1, 2, none⟩ v2).setCell ⟨g + 1 + 1, 3, none⟩ v3) := fun W v1 v2 v3 y L1 L B code hB hW hop => by
    have hd := OwnP.done (w := w) (inp := y.inputs) hop (br.below hW) (hB0.trans (hW.mono hB0.size)) i0 hB
    exact ⟨hd.1, RetPC.mk rfl hd.2.1 (Nat.le_refl _) hd.2.2⟩
  have FIN := Lib.hid fin
  clear fin
  have hp0 : PPatch E g x := ⟨p1, c1, p2, c2, p3, c3, bx, r1.below hB0, r2.below hB0, r3.below hB0⟩
  clear r1 r2 r3 hv
  have OK := Lib.hid (l07Ok_any _ hp0)
  cases hF : okB x
  case false =>
    rw [hF] at OK
    rw [(ap_bad hF).1, (ap_bad hF).2]
    clear hF hp0 bx bw
    go_enter Tryz.func12, Tryz.ntmps12
    go_upto_region 1 with fail
    rw [← HE.out, ← HG.out]
    go_wp2_with fail
    refine OK.out.mono ?_
    rintro e W1 ⟨rfl, hb1⟩
    have bri := br.below hb1
    obtain ⟨bW, hret⟩ := FIN.out W1 _ _ _ noPatch [] [] w.heap.size 1 (Nat.le_refl _) hb1 (OwnP.none0 _ _)
    simp only [noPatch] at bW
    have k0 := bri.cell 0 rfl
    have k1 := bri.cell 1 rfl
    have k2 := bri.cell 2 rfl
    have k3 := bri.cell 3 rfl
    have g0 := bri.frozen 0
    have g1 := bri.frozen 1
    have g2 := bri.frozen 2
    have g3 := bri.frozen 3
    have m0 := bW.cell 0 rfl
    have m1 := bW.cell 1 rfl
    have m2 := bW.cell 2 rfl
    have m3 := bW.cell 3 rfl
    have HRET := Lib.hid hret
    clear hret bW bri
    go_wp2_with fail
    refine bodyPost_ret (v := .tuple #[.agg #[.int .i64 0, .slice none 0 0, .slice none 0 0, .slice none 0 0], .int .i64 1]) (by simp [results, Tryz.results12, go_sem, *]) rfl ?_
    exact HRET.out
  rw [hF] at OK
  have hf := okB_formed hF
  have hn24 := (formed_iff.1 hf).2.2.1
  have hwl : IntKind.i64.wrap ((x.nodes.length : Int) - 1) = (x.nodes.length : Int) - 1 := IntWalk.i64_in _ (by omega)
  have hgl := bx.lt
  have hgl2 := bw.lt
  have HIN : Hid (∀ W, Calls Tryz.prog 38 #[.int .i64 n, .int .i64 0, .int .i64 ((x.nodes.length : Int) - 1)] W fun e w' => e = .returned (.bool (inB n 0 ((x.nodes.length : Int) - 1))) ∧ W = w') := fun W => l00In_any _ _ _ W
  have HNO := Lib.hid (fun h' => ap_not (x := x) (r := r) (n := n) hF h')
  have HYES := Lib.hid (fun h' => ap_yes (x := x) (r := r) (n := n) hF h')
  have HAP : Hid (∀ b, inB n 0 ((x.nodes.length : Int) - 1) = b → apOk x r n = (b && (!(r == 0) && ruleP x n == r))) := fun b hb => by unfold apOk; rw [hb]
  obtain ⟨R, hR⟩ : ∃ R, R = apRes x r n := ⟨_, rfl⟩
  obtain ⟨C, hC⟩ : ∃ C, C = apCode x r n := ⟨_, rfl⟩
  rw [← hR, ← hC]
  rw [← hR, ← hC] at HNO HYES
  clear hR hC
  cases hin : inB n 0 ((x.nodes.length : Int) - 1)
  case false =>
    rw [hin] at HIN
    obtain ⟨e1, e2⟩ := HNO.out (by rw [HAP.out _ hin]; rfl)
    subst e1 e2
    clear HNO HYES HAP hin
    go_enter Tryz.func12, Tryz.ntmps12
    go_upto_region 1 with fail
    rw [← HE.out, ← HG.out]
    go_wp2_with fail
    refine OK.out.mono ?_
    rintro e W1 ⟨rfl, hb1⟩
    have s2 := (bx.below hb1).cell 2 rfl
    have t0 := (bw.below hb1).cell 0 rfl
    have t1 := (bw.below hb1).cell 1 rfl
    have J1 : Hid (∀ W, Calls Tryz.prog 38 #[.int .i64 n, .int .i64 0, .int .i64 ((x.nodes.length : Int) - 1)] W fun e w' => e = .returned (.bool false) ∧ Below W.heap.size W w') := fun W => (HIN.out W).mono fun e w' ⟨h1, h2⟩ => ⟨h1, h2 ▸ Below.refl _ _⟩
    have N1 := Lib.hid (fun n os => Calls.regrown_of (w := W1) (d := n) (os := os) (J1.out _))
    have s2' := cell_regrown s2
    have t0' := cell_regrown t0
    have t1' := cell_regrown t1
    clear J1 HIN s2 t0 t1 hp0 bx bw
    go_upto_region 3 with fail
    refine wp_region_quiet_below (by kernel_rfl) (by kernel_rfl) ?_
    repeat (first | go_big_quiet_step ((go_at_call 38; exact N1.out _ _)) | quiet_step ((go_at_call 38; exact N1.out _ _)))
    refine wpQuiet_nil ?_
    intro _ hw'
    obtain ⟨⟨dq, osq⟩, hw''⟩ := hw'
    subst hw''
    have hq := hb1.trans ((below_regrown W1 dq osq).mono hb1.size)
    have bri := br.below hq
    obtain ⟨bW, hret⟩ := FIN.out _ _ _ _ noPatch [] [] w.heap.size 3 (Nat.le_refl _) hq (OwnP.none0 _ _)
    simp only [noPatch] at bW
    have k0 := bri.cell 0 rfl
    have k1 := bri.cell 1 rfl
    have k2 := bri.cell 2 rfl
    have k3 := bri.cell 3 rfl
    have g0 := bri.frozen 0
    have g1 := bri.frozen 1
    have g2 := bri.frozen 2
    have g3 := bri.frozen 3
    have m0 := bW.cell 0 rfl
    have m1 := bW.cell 1 rfl
    have m2 := bW.cell 2 rfl
    have m3 := bW.cell 3 rfl
    have HRET := Lib.hid hret
    clear hret bW bri
    go_wp2_with fail
    refine bodyPost_ret (v := .tuple #[.agg #[.int .i64 0, .slice none 0 0, .slice none 0 0, .slice none 0 0], .int .i64 3]) (by simp [results, Tryz.results12, go_sem, *]) rfl ?_
    exact HRET.out
  rw [hin] at HIN
  by_cases hr0 : r = 0
  case pos =>
    subst hr0
    obtain ⟨e1, e2⟩ := HNO.out (by rw [HAP.out _ hin]; rfl)
    subst e1 e2
    clear HNO HYES HAP hin
    go_enter Tryz.func12, Tryz.ntmps12
    go_upto_region 1 with fail
    rw [← HE.out, ← HG.out]
    go_wp2_with fail
    refine OK.out.mono ?_
    rintro e W1 ⟨rfl, hb1⟩
    have s2 := (bx.below hb1).cell 2 rfl
    have t0 := (bw.below hb1).cell 0 rfl
    have t1 := (bw.below hb1).cell 1 rfl
    have J1 : Hid (∀ W, Calls Tryz.prog 38 #[.int .i64 n, .int .i64 0, .int .i64 ((x.nodes.length : Int) - 1)] W fun e w' => e = .returned (.bool true) ∧ Below W.heap.size W w') := fun W => (HIN.out W).mono fun e w' ⟨h1, h2⟩ => ⟨h1, h2 ▸ Below.refl _ _⟩
    have N1 := Lib.hid (fun n os => Calls.regrown_of (w := W1) (d := n) (os := os) (J1.out _))
    have s2' := cell_regrown s2
    have t0' := cell_regrown t0
    have t1' := cell_regrown t1
    clear J1 HIN s2 t0 t1 hp0 bx bw
    go_upto_region 3 with fail
    refine wp_region_quiet_below (by kernel_rfl) (by kernel_rfl) ?_
    repeat (first | go_big_quiet_step ((go_at_call 38; exact N1.out _ _)) | quiet_step ((go_at_call 38; exact N1.out _ _)))
    refine wpQuiet_nil ?_
    intro _ hw'
    obtain ⟨⟨dq, osq⟩, hw''⟩ := hw'
    subst hw''
    have hq := hb1.trans ((below_regrown W1 dq osq).mono hb1.size)
    have bri := br.below hq
    obtain ⟨bW, hret⟩ := FIN.out _ _ _ _ noPatch [] [] w.heap.size 3 (Nat.le_refl _) hq (OwnP.none0 _ _)
    simp only [noPatch] at bW
    have k0 := bri.cell 0 rfl
    have k1 := bri.cell 1 rfl
    have k2 := bri.cell 2 rfl
    have k3 := bri.cell 3 rfl
    have g0 := bri.frozen 0
    have g1 := bri.frozen 1
    have g2 := bri.frozen 2
    have g3 := bri.frozen 3
    have m0 := bW.cell 0 rfl
    have m1 := bW.cell 1 rfl
    have m2 := bW.cell 2 rfl
    have m3 := bW.cell 3 rfl
    have HRET := Lib.hid hret
    clear hret bW bri
    go_wp2_with fail
    refine bodyPost_ret (v := .tuple #[.agg #[.int .i64 0, .slice none 0 0, .slice none 0 0, .slice none 0 0], .int .i64 3]) (by simp [results, Tryz.results12, go_sem, *]) rfl ?_
    exact HRET.out
  have q0 : (r == 0) = false := by rw [beq_eq_false_iff_ne]; exact hr0
  obtain ⟨i, rfl, hi⟩ : ∃ i : Nat, n = (i : Int) ∧ i < x.nodes.length := by
    rw [inB_iff] at hin
    obtain ⟨i, hi⟩ := Int.eq_ofNat_of_zero_le hin.1
    exact ⟨i, hi, by omega⟩
  have HAP2 : Hid (∀ b, (ruleP x (i : Int) == r) = b → apOk x r (i : Int) = b) := fun b hb => by rw [HAP.out _ hin, q0, hb]; rfl
  have NE : Hid (∀ W, Below E.heap.size E W → Calls Tryz.prog 40 #[.pointer (some ⟨g, 0, none⟩)] W fun e w' => ∃ p c, e = .returned (.slice p (need x).length c) ∧ RdI w' p (need x) ∧ Below W.heap.size W w') := fun W hW =>
    (l07Needed_any W (hp0.below hW) hf).mono fun e w' ⟨u, he, ho, hbl⟩ => by
      obtain ⟨p, c, rfl, hr⟩ := ho.rd
      exact ⟨p, c, he, hr, hbl⟩
  have RU : Hid (∀ W p c, Below E.heap.size E W → RdI W p (need x) → Calls Tryz.prog 39 #[.pointer (some ⟨g, 0, none⟩), .slice p (need x).length c, .int .i64 (i : Int)] W fun e w' => e = .returned (.int .i64 (ruleP x (i : Int))) ∧ Below W.heap.size W w') := fun W p c hW hr => by
    obtain ⟨b, o, c', hsp⟩ := SPat.of (hp0.below hW) hi
    exact l10Rule_x (cn := c) W hsp hF hi hr
  have AP : Hid (ruleP x (i : Int) = r → ∀ W, Below E.heap.size E W → Calls Tryz.prog 41 #[.pointer (some ⟨g, 0, none⟩), .int .i64 r, .int .i64 (i : Int)] W (RetP0 W (afterP x (i : Int) r))) := fun he W hW => by
    have h1 := l10Apply_x W (hp0.below hW) hF hi (by rw [he]; exact hr0)
    rwa [he] at h1
  have hiz : (0 : Int) ≤ (i : Int) := by omega
  clear HAP hin hp0 hF hf
  generalize ruleP x (i : Int) = R0 at *
  generalize need x = nd at *
  cases hq : (R0 == r)
  case false =>
    have q1 : (R0 != r) = true := by rw [bne, hq]; rfl
    obtain ⟨e1, e2⟩ := HNO.out (HAP2.out _ hq)
    subst e1 e2
    clear HNO HYES HAP2 hq AP
    go_enter Tryz.func12, Tryz.ntmps12
    go_upto_region 1 with fail
    rw [← HE.out, ← HG.out]
    go_wp2_with fail
    refine OK.out.mono ?_
    rintro e W1 ⟨rfl, hb1⟩
    have WB : Below E.heap.size E W1 := hb1
    have CK : Hid (∀ W, Below W1.heap.size W1 W → W.cell? ⟨g, 2, none⟩ = some (.slice p2 x.nodes.length c2) ∧ W.cell? ⟨g + 1, 0, none⟩ = some (.int .i64 r) ∧ W.cell? ⟨g + 1, 1, none⟩ = some (.int .i64 (i : Int))) := fun W hW => ⟨((bx.below hb1).below hW).cell 2 rfl, ((bw.below hb1).below hW).cell 0 rfl, ((bw.below hb1).below hW).cell 1 rfl⟩
    have hcur := belowDrew W1
    have NE1 : Hid (∀ W, Below W1.heap.size W1 W → _) := fun W hW => NE.out W (hb1.trans (hW.mono hb1.size))
    have RU1 : Hid (∀ W p c, Below W1.heap.size W1 W → RdI W p nd → _) := fun W p c hW hr => RU.out W p c (hb1.trans (hW.mono hb1.size)) hr
    obtain ⟨z2, z0, z1⟩ := CK.out W1 (Below.refl _ _)
    clear NE RU
    go_upto_region 3 with fail
    go_region_held3 (fun W => W.cell? ⟨g, 2, none⟩ = some (.slice p2 x.nodes.length c2) ∧ W.cell? ⟨g + 1, 0, none⟩ = some (.int .i64 r) ∧ W.cell? ⟨g + 1, 1, none⟩ = some (.int .i64 (i : Int))) (first | go_keep | exact CK.out _ hcur) (first | (go_at_call 38; refine (HIN.out _).mono ?_; rintro e F ⟨rfl, rfl⟩) | (go_at_call 40; refine (NE1.out _ hcur).mono ?_; rintro e F ⟨pn, cn, rfl, hrn, hb⟩; have hcur := hcur.trans (hb.mono hcur.size)) | (go_at_call 39; refine (RU1.out _ _ _ hcur (by first | exact hrn | exact hrn.below (bdrewn _))).mono ?_; rintro e F2 ⟨rfl, hb⟩; have hcur := hcur.trans (hb.mono hcur.size)))
    have hq := hb1.trans (hcur.mono hb1.size)
    have bri := br.below hq
    obtain ⟨bW, hret⟩ := FIN.out _ _ _ _ noPatch [] [] w.heap.size 3 (Nat.le_refl _) hq (OwnP.none0 _ _)
    simp only [noPatch] at bW
    have k0 := bri.cell 0 rfl
    have k1 := bri.cell 1 rfl
    have k2 := bri.cell 2 rfl
    have k3 := bri.cell 3 rfl
    have g0 := bri.frozen 0
    have g1 := bri.frozen 1
    have g2 := bri.frozen 2
    have g3 := bri.frozen 3
    have m0 := bW.cell 0 rfl
    have m1 := bW.cell 1 rfl
    have m2 := bW.cell 2 rfl
    have m3 := bW.cell 3 rfl
    have HRET := Lib.hid hret
    clear hret bW bri
    go_wp2_with fail
    refine bodyPost_ret (v := .tuple #[.agg #[.int .i64 0, .slice none 0 0, .slice none 0 0, .slice none 0 0], .int .i64 3]) (by simp [results, Tryz.results12, go_sem, *]) rfl ?_
    exact HRET.out
  case true =>
    obtain rfl : R0 = r := by rw [beq_iff_eq] at hq; exact hq
    have q1 : (R0 != R0) = false := by rw [bne, hq]; rfl
    obtain ⟨e1, e2⟩ := HYES.out (HAP2.out _ hq)
    subst e1 e2
    have AP1 := Lib.hid (AP.out rfl)
    clear HNO HYES HAP2 hq AP
    generalize afterP x (i : Int) R0 = KP at AP1 ⊢
    go_enter Tryz.func12, Tryz.ntmps12
    go_upto_region 1 with fail
    rw [← HE.out, ← HG.out]
    go_wp2_with fail
    refine OK.out.mono ?_
    rintro e W1 ⟨rfl, hb1⟩
    have WB : Below E.heap.size E W1 := hb1
    have CK : Hid (∀ W, Below W1.heap.size W1 W → W.cell? ⟨g, 2, none⟩ = some (.slice p2 x.nodes.length c2) ∧ W.cell? ⟨g + 1, 0, none⟩ = some (.int .i64 R0) ∧ W.cell? ⟨g + 1, 1, none⟩ = some (.int .i64 (i : Int))) := fun W hW => ⟨((bx.below hb1).below hW).cell 2 rfl, ((bw.below hb1).below hW).cell 0 rfl, ((bw.below hb1).below hW).cell 1 rfl⟩
    have hcur := belowDrew W1
    have NE1 : Hid (∀ W, Below W1.heap.size W1 W → _) := fun W hW => NE.out W (hb1.trans (hW.mono hb1.size))
    have RU1 : Hid (∀ W p c, Below W1.heap.size W1 W → RdI W p nd → _) := fun W p c hW hr => RU.out W p c (hb1.trans (hW.mono hb1.size)) hr
    obtain ⟨z2, z0, z1⟩ := CK.out W1 (Below.refl _ _)
    clear NE RU
    go_upto_region 3 with fail
    go_region_held3 (fun W => W.cell? ⟨g, 2, none⟩ = some (.slice p2 x.nodes.length c2) ∧ W.cell? ⟨g + 1, 0, none⟩ = some (.int .i64 R0) ∧ W.cell? ⟨g + 1, 1, none⟩ = some (.int .i64 (i : Int))) (first | go_keep | exact CK.out _ hcur) (first | (go_at_call 38; refine (HIN.out _).mono ?_; rintro e F ⟨rfl, rfl⟩) | (go_at_call 40; refine (NE1.out _ hcur).mono ?_; rintro e F ⟨pn, cn, rfl, hrn, hb⟩; have hcur := hcur.trans (hb.mono hcur.size)) | (go_at_call 39; refine (RU1.out _ _ _ hcur (by first | exact hrn | exact hrn.below (bdrewn _))).mono ?_; rintro e F2 ⟨rfl, hb⟩; have hcur := hcur.trans (hb.mono hcur.size)))
    obtain ⟨-, t0, t1⟩ := CK.out _ hcur
    have hW := hb1.trans (hcur.mono hb1.size)
    have K3 := Lib.hid (AP1.out _ hW)
    go_wp2_with fail
    refine K3.out.mono ?_
    rintro e W3 ⟨v1, v2, v3, L1, L, rfl, hop, hb3⟩
    have hb13 := Below.via hW hb3
    obtain ⟨q1', d1, e1⟩ := hop.o1.sl'
    obtain ⟨q2', d2, e2⟩ := hop.o2.sl
    obtain ⟨q3', d3, e3, -⟩ := hop.o3.rd
    subst e1 e2 e3
    have bri := br.below hb13
    obtain ⟨bW, hret⟩ := FIN.out W3 _ _ _ KP L1 L _ 0 (Nat.le_trans hB0.size hW.size) hb13 hop
    have k0 := bri.cell 0 rfl
    have k1 := bri.cell 1 rfl
    have k2 := bri.cell 2 rfl
    have k3 := bri.cell 3 rfl
    have g0 := bri.frozen 0
    have g1 := bri.frozen 1
    have g2 := bri.frozen 2
    have g3 := bri.frozen 3
    have m0 := bW.cell 0 rfl
    have m1 := bW.cell 1 rfl
    have m2 := bW.cell 2 rfl
    have m3 := bW.cell 3 rfl
    have HRET := Lib.hid hret
    clear hret bW bri hop
    go_wp2_with fail
    refine bodyPost_ret (v := .tuple #[.agg #[.int .i64 KP.inputs, .slice q1' L1.length d1, .slice q2' KP.nodes.length d2, .slice q3' KP.outputs.length d3], .int .i64 0]) (by simp [results, Tryz.results12, go_sem, *]) rfl ?_
    exact HRET.out
set_option maxHeartbeats 8000000 in
set_option maxRecDepth 100000 in
theorem implApplyRewrite_v {v : Value} {x : PatchD} {r n : Int} (w : World) (h : VPatch w v x) :
    Calls Tryz.prog 14 #[v, .agg #[.int .i64 r, .int .i64 n]] w (RetPC w (apRes x r n) (apCode x r n)) := by
  have hv := h
  obtain ⟨p1, c1, p2, c2, p3, c3, rfl, -, r2, -⟩ := h
  have hml := r2.len
  clear r2
  obtain ⟨g, hg⟩ : ∃ g, g = w.heap.size := ⟨_, rfl⟩
  obtain ⟨E, hE⟩ : ∃ E, E = ((w.alloc (.cells #[.int .i64 x.inputs, .slice p1 x.tables.length c1, .slice p2 x.nodes.length c2, .slice p3 x.outputs.length c3] 32)).alloc (.cells #[.int .i64 r, .int .i64 n] 40)).alloc (.cells #[.int .i64 0, .slice none 0 0, .slice none 0 0, .slice none 0 0] 32) := ⟨_, rfl⟩
  have hB0 : Below w.heap.size w E := by rw [hE]; exact (((Below.refl _ _).alloc (Nat.le_refl _) _).alloc (by simp) _).alloc (by simp; omega) _
  have bx : Box E g [.int .i64 x.inputs, .slice p1 x.tables.length c1, .slice p2 x.nodes.length c2, .slice p3 x.outputs.length c3] 32 := by rw [hE, hg]; exact ((Box.newAt w _ _ rfl).alloc _).alloc _
  have bw : Box E (g + 1) [.int .i64 r, .int .i64 n] 40 := by rw [hE, hg]; exact (Box.newAt (w.alloc _) [.int .i64 r, .int .i64 n] _ (by simp)).alloc _
  have br : Box E (g + 1 + 1) zPatch 32 := by rw [hE, hg]; exact Box.newAt ((w.alloc _).alloc _) _ _ (by simp)
  have HE := Lib.hid hE
  have HG := Lib.hid hg
  have i0 : w.heap.size ≤ g + 1 + 1 := by omega
  clear hE hg
  have fin : ∀ (W : World) (v1 v2 v3 : Value) (y : PatchD) (L1 L : List Value) (B : Nat) (code : Int), w.heap.size ≤ B → Below E.heap.size E W → OwnP B W v1 v2 v3 y.tables y.nodes y.outputs L1 L →
      (Box ((((W.setCell ⟨g + 1 + 1, 0, none⟩ (.int .i64 y.inputs)).setCell ⟨g + 1 + 1, 1, none⟩ v1).setCell ⟨g + 1 + 1, 2, none⟩ v2).setCell ⟨g + 1 + 1, 3, none⟩ v3) (g + 1 + 1) [.int .i64 y.inputs, v1, v2, v3] 32) ∧
      RetPC w y code (.returned (.tuple #[.agg #[.int .i64 y.inputs, v1, v2, v3], .int .i64 code])) ((((W.setCell ⟨g + 1 + 1, 0, none⟩ (.int .i64 y.inputs)).setCell ⟨g + 1 + 1, 1, none⟩ v1).setCell ⟨g + 1 + 1, 2, none⟩ v2).setCell ⟨g + 1 + 1, 3, none⟩ v3) := fun W v1 v2 v3 y L1 L B code hB hW hop => by
    have hd := OwnP.done (w := w) (inp := y.inputs) hop (br.below hW) (hB0.trans (hW.mono hB0.size)) i0 hB
    exact ⟨hd.1, RetPC.mk rfl hd.2.1 (Nat.le_refl _) hd.2.2⟩
  have FIN := Lib.hid fin
  clear fin
  have OK := Lib.hid (isPatch_v E (hv.below hB0))
  cases hF : okB x
  case false =>
    rw [hF] at OK
    rw [(ap_bad hF).1, (ap_bad hF).2]
    have z0 := bx.cell 0 rfl
    have z1 := bx.cell 1 rfl
    have z2 := bx.cell 2 rfl
    have z3 := bx.cell 3 rfl
    clear hF bx bw
    go_enter Tryz.func14, Tryz.ntmps14
    go_upto_region 1 with fail
    rw [← HE.out, ← HG.out]
    go_wp2_with fail
    refine OK.out.mono ?_
    rintro e W1 ⟨rfl, hb1⟩
    clear z0 z1 z2 z3
    have bri := br.below hb1
    obtain ⟨bW, hret⟩ := FIN.out W1 _ _ _ noPatch [] [] w.heap.size 1 (Nat.le_refl _) hb1 (OwnP.none0 _ _)
    simp only [noPatch] at bW
    have k0 := bri.cell 0 rfl
    have k1 := bri.cell 1 rfl
    have k2 := bri.cell 2 rfl
    have k3 := bri.cell 3 rfl
    have g0 := bri.frozen 0
    have g1 := bri.frozen 1
    have g2 := bri.frozen 2
    have g3 := bri.frozen 3
    have m0 := bW.cell 0 rfl
    have m1 := bW.cell 1 rfl
    have m2 := bW.cell 2 rfl
    have m3 := bW.cell 3 rfl
    have HRET := Lib.hid hret
    clear hret bW bri
    go_wp2_with fail
    refine bodyPost_ret (v := .tuple #[.agg #[.int .i64 0, .slice none 0 0, .slice none 0 0, .slice none 0 0], .int .i64 1]) (by simp [results, Tryz.results14, go_sem, *]) rfl ?_
    exact HRET.out
  rw [hF] at OK
  have hf := okB_formed hF
  have hn24 := (formed_iff.1 hf).2.2.1
  have hwl : IntKind.i64.wrap ((x.nodes.length : Int) - 1) = (x.nodes.length : Int) - 1 := IntWalk.i64_in _ (by omega)
  have HSZ : Hid (∀ W, Calls Tryz.prog 34 #[.slice p2 x.nodes.length c2] W fun e w' => e = .returned (.int .i64 (x.nodes.length : Int)) ∧ Below W.heap.size W w') := fun W => (sizeN_any p2 x.nodes.length c2 W hml).mono fun e w' ⟨h1, h2⟩ => ⟨h1, h2 ▸ Below.refl _ _⟩
  have HIN : Hid (∀ W, Calls Tryz.prog 42 #[.int .i64 n, .int .i64 0, .int .i64 ((x.nodes.length : Int) - 1)] W fun e w' => e = .returned (.bool (inB n 0 ((x.nodes.length : Int) - 1))) ∧ Below W.heap.size W w') := fun W => (within_any _ _ _ W).mono fun e w' ⟨h1, h2⟩ => ⟨h1, h2 ▸ Below.refl _ _⟩
  have HNO := Lib.hid (fun h' => ap_not (x := x) (r := r) (n := n) hF h')
  have HYES := Lib.hid (fun h' => ap_yes (x := x) (r := r) (n := n) hF h')
  have HAP : Hid (∀ b, inB n 0 ((x.nodes.length : Int) - 1) = b → apOk x r n = (b && (!(r == 0) && ruleP x n == r))) := fun b hb => by unfold apOk; rw [hb]
  obtain ⟨R, hR⟩ : ∃ R, R = apRes x r n := ⟨_, rfl⟩
  obtain ⟨C, hC⟩ : ∃ C, C = apCode x r n := ⟨_, rfl⟩
  rw [← hR, ← hC]
  rw [← hR, ← hC] at HNO HYES
  clear hR hC
  have z0 := bx.cell 0 rfl
  have z1 := bx.cell 1 rfl
  have z2 := bx.cell 2 rfl
  have z3 := bx.cell 3 rfl
  cases hin : inB n 0 ((x.nodes.length : Int) - 1)
  case false =>
    rw [hin] at HIN
    obtain ⟨e1, e2⟩ := HNO.out (by rw [HAP.out _ hin]; rfl)
    subst e1 e2
    clear HNO HYES HAP hin
    go_enter Tryz.func14, Tryz.ntmps14
    go_upto_region 1 with fail
    rw [← HE.out, ← HG.out]
    go_wp2_with fail
    refine OK.out.mono ?_
    rintro e W1 ⟨rfl, hb1⟩
    clear z0 z1 z2 z3
    have N1 := Lib.hid (fun n os => Calls.regrown_of (w := W1) (d := n) (os := os) (HSZ.out _))
    have N2 := Lib.hid (fun n os => Calls.regrown_of (w := W1) (d := n) (os := os) (HIN.out _))
    have s2 := cell_regrown ((bx.below hb1).cell 2 rfl)
    have t1 := cell_regrown ((bw.below hb1).cell 1 rfl)
    clear HSZ HIN bx bw
    go_upto_region 3 with fail
    refine wp_region_quiet_below (by kernel_rfl) (by kernel_rfl) ?_
    repeat (first | go_big_quiet_step ((first | (go_at_call 34; exact N1.out _ _) | (go_at_call 42; exact N2.out _ _))) | quiet_step ((first | (go_at_call 34; exact N1.out _ _) | (go_at_call 42; exact N2.out _ _))))
    refine wpQuiet_nil ?_
    intro _ hw'
    obtain ⟨⟨dq, osq⟩, hw''⟩ := hw'
    subst hw''
    have hq := hb1.trans ((below_regrown W1 dq osq).mono hb1.size)
    have bri := br.below hq
    obtain ⟨bW, hret⟩ := FIN.out _ _ _ _ noPatch [] [] w.heap.size 3 (Nat.le_refl _) hq (OwnP.none0 _ _)
    simp only [noPatch] at bW
    have k0 := bri.cell 0 rfl
    have k1 := bri.cell 1 rfl
    have k2 := bri.cell 2 rfl
    have k3 := bri.cell 3 rfl
    have g0 := bri.frozen 0
    have g1 := bri.frozen 1
    have g2 := bri.frozen 2
    have g3 := bri.frozen 3
    have m0 := bW.cell 0 rfl
    have m1 := bW.cell 1 rfl
    have m2 := bW.cell 2 rfl
    have m3 := bW.cell 3 rfl
    have HRET := Lib.hid hret
    clear hret bW bri
    go_wp2_with fail
    refine bodyPost_ret (v := .tuple #[.agg #[.int .i64 0, .slice none 0 0, .slice none 0 0, .slice none 0 0], .int .i64 3]) (by simp [results, Tryz.results14, go_sem, *]) rfl ?_
    exact HRET.out
  rw [hin] at HIN
  obtain ⟨i, rfl, hi⟩ : ∃ i : Nat, n = (i : Int) ∧ i < x.nodes.length := by
    rw [inB_iff] at hin
    obtain ⟨i, hi⟩ := Int.eq_ofNat_of_zero_le hin.1
    exact ⟨i, hi, by omega⟩
  have HAP2 : Hid (∀ b1 b2, (r == 0) = b1 → (ruleP x (i : Int) == r) = b2 → apOk x r (i : Int) = (!b1 && b2)) := fun b1 b2 h1 h2 => by rw [HAP.out _ hin, h1, h2]; rfl
  have RW : Hid (∀ W, Below E.heap.size E W → Calls Tryz.prog 43 #[.agg #[.int .i64 x.inputs, .slice p1 x.tables.length c1, .slice p2 x.nodes.length c2, .slice p3 x.outputs.length c3], .int .i64 (i : Int)] W (RetW W (ruleP x (i : Int)) (afterP x (i : Int) (ruleP x (i : Int))))) := fun W hW => rewrite_x W (hv.below (hB0.trans (hW.mono hB0.size))) hf hi
  unfold RetW at RW
  clear HAP hin hF hf hv
  generalize ruleP x (i : Int) = R0 at *
  have WALK : True := trivial
  by_cases hz : R0 = 0
  case pos =>
    have q0 : (R0 == 0) = true := by rw [beq_iff_eq]; exact hz
    obtain ⟨e1, e2⟩ := HNO.out (by
      rw [HAP2.out _ _ rfl rfl, hz]
      by_cases h : r = 0
      · rw [h]; rfl
      · rw [show ((0 : Int) == r) = false from by rw [beq_eq_false_iff_ne]; exact fun e => h e.symm, Bool.and_false])
    subst e1 e2
    clear HNO HYES HAP2 hz
    go_enter Tryz.func14, Tryz.ntmps14
    go_upto_region 1 with fail
    rw [← HE.out, ← HG.out]
    go_wp2_with fail
    refine OK.out.mono ?_
    rintro e W1 ⟨rfl, hb1⟩
    clear z0 z1 z2 z3
    have N1 := Lib.hid (fun n os => Calls.regrown_of (w := W1) (d := n) (os := os) (HSZ.out _))
    have N2 := Lib.hid (fun n os => Calls.regrown_of (w := W1) (d := n) (os := os) (HIN.out _))
    have s0 := cell_regrown ((bx.below hb1).cell 0 rfl)
    have s1' := cell_regrown ((bx.below hb1).cell 1 rfl)
    have s2' := cell_regrown ((bx.below hb1).cell 2 rfl)
    have s3' := cell_regrown ((bx.below hb1).cell 3 rfl)
    have t1 := cell_regrown ((bw.below hb1).cell 1 rfl)
    clear HSZ HIN
    go_upto_region 3 with fail
    refine wp_region_quiet_below (by kernel_rfl) (by kernel_rfl) ?_
    repeat (first | go_big_quiet_step ((first | (go_at_call 34; exact N1.out _ _) | (go_at_call 42; exact N2.out _ _))) | quiet_step ((first | (go_at_call 34; exact N1.out _ _) | (go_at_call 42; exact N2.out _ _))))
    refine wpQuiet_nil ?_
    intro _ hw'
    obtain ⟨⟨dq, osq⟩, hw''⟩ := hw'
    subst hw''
    have hWq := hb1.trans ((below_regrown W1 dq osq).mono hb1.size)
    have RW1 := Lib.hid (RW.out _ hWq)
    clear RW
    go_wp2_with fail
    refine RW1.out.mono ?_
    rintro e W2 ⟨v', rfl, hvp, hown', hb2⟩
    have hown := Lib.hid hown'
    obtain ⟨s1, d1, s2, d2, s3, d3, rfl, -, -, -⟩ := hvp
    obtain ⟨V2, hV2⟩ : ∃ V, V = W2.alloc (.cells #[.int .i64 (afterP x (i : Int) R0).inputs, .slice s1 (afterP x (i : Int) R0).tables.length d1, .slice s2 (afterP x (i : Int) R0).nodes.length d2, .slice s3 (afterP x (i : Int) R0).outputs.length d3] 32) := ⟨_, rfl⟩
    have x2 : Below W2.heap.size W2 V2 := by rw [hV2]; exact (Below.refl _ _).alloc (Nat.le_refl _) _
    have bo : Box V2 W2.heap.size [.int .i64 (afterP x (i : Int) R0).inputs, .slice s1 (afterP x (i : Int) R0).tables.length d1, .slice s2 (afterP x (i : Int) R0).nodes.length d2, .slice s3 (afterP x (i : Int) R0).outputs.length d3] 32 := by rw [hV2]; exact Box.newAt W2 _ _ rfl
    have hV : Below E.heap.size E V2 := (hWq.trans (hb2.mono hWq.size)).trans (x2.mono (hWq.trans (hb2.mono hWq.size)).size)
    obtain ⟨so, hso⟩ : ∃ so, so = W2.heap.size := ⟨_, rfl⟩
    rw [← hso] at bo
    have HV2 := Lib.hid hV2
    have HSO := Lib.hid hso
    clear hV2 hso RW1 hown' s0 s1' s2' s3' t1
    have t0 := (bw.below hV).cell 0 rfl
    go_upto_region 6 with fail
    rw [← HV2.out, ← HSO.out]
    have bri := br.below hV
    obtain ⟨bW, hret⟩ := FIN.out V2 _ _ _ noPatch [] [] w.heap.size 3 (Nat.le_refl _) hV (OwnP.none0 _ _)
    simp only [noPatch] at bW
    have k0 := bri.cell 0 rfl
    have k1 := bri.cell 1 rfl
    have k2 := bri.cell 2 rfl
    have k3 := bri.cell 3 rfl
    have g0 := bri.frozen 0
    have g1 := bri.frozen 1
    have g2 := bri.frozen 2
    have g3 := bri.frozen 3
    have m0 := bW.cell 0 rfl
    have m1 := bW.cell 1 rfl
    have m2 := bW.cell 2 rfl
    have m3 := bW.cell 3 rfl
    have HRET := Lib.hid hret
    clear hret bW bri
    go_wp2_with fail
    refine bodyPost_ret (v := .tuple #[.agg #[.int .i64 0, .slice none 0 0, .slice none 0 0, .slice none 0 0], .int .i64 3]) (by simp [results, Tryz.results14, go_sem, *]) rfl ?_
    exact HRET.out
  have q0 : (R0 == 0) = false := by rw [beq_eq_false_iff_ne]; exact hz
  by_cases hr : R0 = r
  case neg =>
    have q1 : (R0 != r) = true := by rw [bne_iff_ne]; exact hr
    obtain ⟨e1, e2⟩ := HNO.out (by rw [HAP2.out _ _ rfl rfl, show (R0 == r) = false from by rw [beq_eq_false_iff_ne]; exact hr, Bool.and_false])
    subst e1 e2
    clear HNO HYES HAP2 hz hr
    go_enter Tryz.func14, Tryz.ntmps14
    go_upto_region 1 with fail
    rw [← HE.out, ← HG.out]
    go_wp2_with fail
    refine OK.out.mono ?_
    rintro e W1 ⟨rfl, hb1⟩
    clear z0 z1 z2 z3
    have N1 := Lib.hid (fun n os => Calls.regrown_of (w := W1) (d := n) (os := os) (HSZ.out _))
    have N2 := Lib.hid (fun n os => Calls.regrown_of (w := W1) (d := n) (os := os) (HIN.out _))
    have s0 := cell_regrown ((bx.below hb1).cell 0 rfl)
    have s1' := cell_regrown ((bx.below hb1).cell 1 rfl)
    have s2' := cell_regrown ((bx.below hb1).cell 2 rfl)
    have s3' := cell_regrown ((bx.below hb1).cell 3 rfl)
    have t1 := cell_regrown ((bw.below hb1).cell 1 rfl)
    clear HSZ HIN
    go_upto_region 3 with fail
    refine wp_region_quiet_below (by kernel_rfl) (by kernel_rfl) ?_
    repeat (first | go_big_quiet_step ((first | (go_at_call 34; exact N1.out _ _) | (go_at_call 42; exact N2.out _ _))) | quiet_step ((first | (go_at_call 34; exact N1.out _ _) | (go_at_call 42; exact N2.out _ _))))
    refine wpQuiet_nil ?_
    intro _ hw'
    obtain ⟨⟨dq, osq⟩, hw''⟩ := hw'
    subst hw''
    have hWq := hb1.trans ((below_regrown W1 dq osq).mono hb1.size)
    have RW1 := Lib.hid (RW.out _ hWq)
    clear RW
    go_wp2_with fail
    refine RW1.out.mono ?_
    rintro e W2 ⟨v', rfl, hvp, hown', hb2⟩
    have hown := Lib.hid hown'
    obtain ⟨s1, d1, s2, d2, s3, d3, rfl, -, -, -⟩ := hvp
    obtain ⟨V2, hV2⟩ : ∃ V, V = W2.alloc (.cells #[.int .i64 (afterP x (i : Int) R0).inputs, .slice s1 (afterP x (i : Int) R0).tables.length d1, .slice s2 (afterP x (i : Int) R0).nodes.length d2, .slice s3 (afterP x (i : Int) R0).outputs.length d3] 32) := ⟨_, rfl⟩
    have x2 : Below W2.heap.size W2 V2 := by rw [hV2]; exact (Below.refl _ _).alloc (Nat.le_refl _) _
    have bo : Box V2 W2.heap.size [.int .i64 (afterP x (i : Int) R0).inputs, .slice s1 (afterP x (i : Int) R0).tables.length d1, .slice s2 (afterP x (i : Int) R0).nodes.length d2, .slice s3 (afterP x (i : Int) R0).outputs.length d3] 32 := by rw [hV2]; exact Box.newAt W2 _ _ rfl
    have hV : Below E.heap.size E V2 := (hWq.trans (hb2.mono hWq.size)).trans (x2.mono (hWq.trans (hb2.mono hWq.size)).size)
    obtain ⟨so, hso⟩ : ∃ so, so = W2.heap.size := ⟨_, rfl⟩
    rw [← hso] at bo
    have HV2 := Lib.hid hV2
    have HSO := Lib.hid hso
    clear hV2 hso RW1 hown' s0 s1' s2' s3' t1
    have t0 := (bw.below hV).cell 0 rfl
    go_upto_region 6 with fail
    rw [← HV2.out, ← HSO.out]
    have bri := br.below hV
    obtain ⟨bW, hret⟩ := FIN.out V2 _ _ _ noPatch [] [] w.heap.size 3 (Nat.le_refl _) hV (OwnP.none0 _ _)
    simp only [noPatch] at bW
    have k0 := bri.cell 0 rfl
    have k1 := bri.cell 1 rfl
    have k2 := bri.cell 2 rfl
    have k3 := bri.cell 3 rfl
    have g0 := bri.frozen 0
    have g1 := bri.frozen 1
    have g2 := bri.frozen 2
    have g3 := bri.frozen 3
    have m0 := bW.cell 0 rfl
    have m1 := bW.cell 1 rfl
    have m2 := bW.cell 2 rfl
    have m3 := bW.cell 3 rfl
    have HRET := Lib.hid hret
    clear hret bW bri
    go_wp2_with fail
    refine bodyPost_ret (v := .tuple #[.agg #[.int .i64 0, .slice none 0 0, .slice none 0 0, .slice none 0 0], .int .i64 3]) (by simp [results, Tryz.results14, go_sem, *]) rfl ?_
    exact HRET.out
  case pos =>
    subst hr
    have q1 : (R0 != R0) = false := by simp
    obtain ⟨e1, e2⟩ := HYES.out (by rw [HAP2.out false true q0 (by simp)]; rfl)
    subst e1 e2
    have HZ := Lib.hid hz
    clear HNO HYES HAP2 hz
    generalize afterP x (i : Int) R0 = KP at RW ⊢
    go_enter Tryz.func14, Tryz.ntmps14
    go_upto_region 1 with fail
    rw [← HE.out, ← HG.out]
    go_wp2_with fail
    refine OK.out.mono ?_
    rintro e W1 ⟨rfl, hb1⟩
    clear z0 z1 z2 z3
    have N1 := Lib.hid (fun n os => Calls.regrown_of (w := W1) (d := n) (os := os) (HSZ.out _))
    have N2 := Lib.hid (fun n os => Calls.regrown_of (w := W1) (d := n) (os := os) (HIN.out _))
    have s0 := cell_regrown ((bx.below hb1).cell 0 rfl)
    have s1' := cell_regrown ((bx.below hb1).cell 1 rfl)
    have s2' := cell_regrown ((bx.below hb1).cell 2 rfl)
    have s3' := cell_regrown ((bx.below hb1).cell 3 rfl)
    have t1 := cell_regrown ((bw.below hb1).cell 1 rfl)
    clear HSZ HIN
    go_upto_region 3 with fail
    refine wp_region_quiet_below (by kernel_rfl) (by kernel_rfl) ?_
    repeat (first | go_big_quiet_step ((first | (go_at_call 34; exact N1.out _ _) | (go_at_call 42; exact N2.out _ _))) | quiet_step ((first | (go_at_call 34; exact N1.out _ _) | (go_at_call 42; exact N2.out _ _))))
    refine wpQuiet_nil ?_
    intro _ hw'
    obtain ⟨⟨dq, osq⟩, hw''⟩ := hw'
    subst hw''
    have hWq := hb1.trans ((below_regrown W1 dq osq).mono hb1.size)
    have RW1 := Lib.hid (RW.out _ hWq)
    clear RW
    go_wp2_with fail
    refine RW1.out.mono ?_
    rintro e W2 ⟨v', rfl, hvp, hown', hb2⟩
    have hown := Lib.hid hown'
    obtain ⟨s1, d1, s2, d2, s3, d3, rfl, -, -, -⟩ := hvp
    obtain ⟨V2, hV2⟩ : ∃ V, V = W2.alloc (.cells #[.int .i64 (KP).inputs, .slice s1 (KP).tables.length d1, .slice s2 (KP).nodes.length d2, .slice s3 (KP).outputs.length d3] 32) := ⟨_, rfl⟩
    have x2 : Below W2.heap.size W2 V2 := by rw [hV2]; exact (Below.refl _ _).alloc (Nat.le_refl _) _
    have bo : Box V2 W2.heap.size [.int .i64 (KP).inputs, .slice s1 (KP).tables.length d1, .slice s2 (KP).nodes.length d2, .slice s3 (KP).outputs.length d3] 32 := by rw [hV2]; exact Box.newAt W2 _ _ rfl
    have hV : Below E.heap.size E V2 := (hWq.trans (hb2.mono hWq.size)).trans (x2.mono (hWq.trans (hb2.mono hWq.size)).size)
    obtain ⟨so, hso⟩ : ∃ so, so = W2.heap.size := ⟨_, rfl⟩
    rw [← hso] at bo
    have HV2 := Lib.hid hV2
    have HSO := Lib.hid hso
    clear hV2 hso RW1 hown' s0 s1' s2' s3' t1
    have t0 := (bw.below hV).cell 0 rfl
    go_upto_region 6 with fail
    rw [← HV2.out, ← HSO.out]
    obtain ⟨v1, v2, v3, L1, L, ev, ho2⟩ := hown.out HZ.out
    simp only [Value.agg.injEq, Array.mk.injEq, List.cons.injEq, and_true, true_and] at ev
    obtain ⟨rfl, rfl, rfl⟩ := ev
    have hop := ho2.below x2
    have bri := br.below hV
    obtain ⟨bW, hret⟩ := FIN.out V2 _ _ _ KP L1 L _ 0 (Nat.le_trans hB0.size hWq.size) hV hop
    clear t0
    have y0 := bo.cell 0 rfl
    have y1 := bo.cell 1 rfl
    have y2 := bo.cell 2 rfl
    have y3 := bo.cell 3 rfl
    have k0 := bri.cell 0 rfl
    have k1 := bri.cell 1 rfl
    have k2 := bri.cell 2 rfl
    have k3 := bri.cell 3 rfl
    have g0 := bri.frozen 0
    have g1 := bri.frozen 1
    have g2 := bri.frozen 2
    have g3 := bri.frozen 3
    have m0 := bW.cell 0 rfl
    have m1 := bW.cell 1 rfl
    have m2 := bW.cell 2 rfl
    have m3 := bW.cell 3 rfl
    have HRET := Lib.hid hret
    have t0 := (bw.below hV).cell 0 rfl
    clear hret bW bri hop ho2 hown
    go_wp2_with fail
    refine bodyPost_ret (v := .tuple #[.agg #[.int .i64 KP.inputs, .slice s1 KP.tables.length d1, .slice s2 KP.nodes.length d2, .slice s3 KP.outputs.length d3], .int .i64 0]) (by simp [results, Tryz.results14, go_sem, *]) rfl ?_
    exact HRET.out
end Go.Proofs.YtonkdndpfnapjaaGreat

namespace Go.Proofs.YtonkdndpfnapjaaGreat
open Go.ChangeShapes Go.WideShapes Go.ChangeAt Go.RowKit
set_option linter.unusedVariables false

/-- a patch x, owned, that stands in box s; nothing older is touched -/
def HeldP (E w : World) (s : Nat) (x : PatchD) (v1 v2 v3 : Value) (L : List Value) : Prop :=
  Box w s [.int .i64 x.inputs, v1, v2, v3] 32 ∧ OwnPatch E.heap.size w (.agg #[.int .i64 x.inputs, v1, v2, v3]) x L ∧ Dis L ∧ Below E.heap.size E w
theorem HeldP.new {E F : World} {x : PatchD} {v1 v2 v3 : Value} {L : List Value} {B : Nat} (h : OwnPatch B F (.agg #[.int .i64 x.inputs, v1, v2, v3]) x L) (hd : Dis L) (hc : Below E.heap.size E F) (hB : E.heap.size ≤ B) :
    HeldP E (F.alloc (.cells #[.int .i64 x.inputs, v1, v2, v3] 32)) F.heap.size x v1 v2 v3 L :=
  ⟨Box.newAt _ [.int .i64 x.inputs, v1, v2, v3] _ rfl, (h.mono hB).below ((Below.refl _ _).alloc (Nat.le_refl _) _), hd, hc.alloc hc.size _⟩
theorem HeldP.box {E F : World} {x : PatchD} {v1 v2 v3 : Value} {L : List Value} {B s : Nat} (h : OwnPatch B F (.agg #[.int .i64 x.inputs, v1, v2, v3]) x L) (hd : Dis L) (hc : Below E.heap.size E F) (bq : Box F s zPatch 32) (hs : E.heap.size ≤ s) (hs2 : s < B) :
    HeldP E ((((F.setCell ⟨s, 0, none⟩ (.int .i64 x.inputs)).setCell ⟨s, 1, none⟩ v1).setCell ⟨s, 2, none⟩ v2).setCell ⟨s, 3, none⟩ v3) s x v1 v2 v3 L := by
  have b0 := bq.set 0 (.int .i64 x.inputs)
  have b1 := b0.set 1 v1
  have b2 := b1.set 2 v2
  have b3 := b2.set 3 v3
  refine ⟨by simpa [zPatch] using b3, OwnPatch.mono ?_ (Nat.le_trans hs (Nat.le_of_lt hs2)), hd, (((hc.setCell hs _).setCell hs _).setCell hs _).setCell hs _⟩
  have hne : ∀ k, B ≤ k → k ≠ s := fun k hk e => by omega
  exact (((h.keeps (w' := F.setCell ⟨s, 0, none⟩ (.int .i64 x.inputs)) fun k hk _ => Below.heap_setCell _ _ _ _ (hne k hk)).keeps (w' := (F.setCell ⟨s, 0, none⟩ (.int .i64 x.inputs)).setCell ⟨s, 1, none⟩ v1) fun k hk _ => Below.heap_setCell _ _ _ _ (hne k hk)).keeps (w' := ((F.setCell ⟨s, 0, none⟩ (.int .i64 x.inputs)).setCell ⟨s, 1, none⟩ v1).setCell ⟨s, 2, none⟩ v2) fun k hk _ => Below.heap_setCell _ _ _ _ (hne k hk)).keeps fun k hk _ => Below.heap_setCell _ _ _ _ (hne k hk)
end Go.Proofs.YtonkdndpfnapjaaGreat
