/-
  The texts of valid instructions, on both sides; contracts of InstrText.
-/
import Derived.Test.YtnhhghilejeegaaDoorTxtJ
import Derived.Lib.QuietBelow
namespace Go.Proofs.YtnhhghilejeegaaDoor
open Go.ChangeShapes Go.WideShapes Go.ChangeAt Go.RowKit Go.Sort
set_option linter.unusedVariables false
set_option linter.unusedSimpArgs false

/-- an instruction's text -/
def instrStr (x : InstrD) : List UInt8 :=
  if x.kind = 18 then [115, 116, 111, 114, 101, 32] ++ Lib.itoa x.node ++ [32, 111, 102, 32] ++ Lib.itoa (x.src.getD 0 0)
  else [114] ++ Lib.itoa x.dest ++ [32, 61, 32] ++ Lib.join (wordsN (x.kind - 1).toNat x.a x.b x.src) [32]
theorem instr_store {x : InstrD} (h : instrB x 24 4 = true) (h18 : x.kind = 18) : (0 ≤ x.node ∧ x.node ≤ 23) ∧ ∃ f, x.src = [f] ∧ 0 ≤ f ∧ f ≤ 23 := by
  unfold instrB at h
  rw [if_pos h18] at h
  simp only [Bool.and_eq_true, beq_iff_eq] at h
  obtain ⟨h1, h2, h3, -⟩ := h
  refine ⟨inB_iff.1 h1, ?_⟩
  match hx : x.src, h3 with
  | [f], _ =>
    refine ⟨f, rfl, ?_⟩
    have := List.all_eq_true.1 h2 f (by rw [hx]; simp)
    have := inB_iff.1 this
    omega
  | [], h => simp at h
  | _ :: _ :: _, h => simp at h; omega
theorem instr_other {x : InstrD} (h : instrB x 24 4 = true) (h18 : x.kind ≠ 18) : (0 ≤ x.dest ∧ x.dest ≤ 23) ∧ ∃ i : Nat, i < 17 ∧ x.kind = (i : Int) + 1 ∧ I64 x.a ∧ I64 x.b ∧ AllI x.src ∧ x.src.length ≤ 3 := by
  unfold instrB at h
  rw [if_neg h18] at h
  simp only [Bool.and_eq_true] at h
  obtain ⟨h1, h2, h3, h4⟩ := h
  have h3' := inB_iff.1 h3
  refine ⟨by omega, ?_⟩
  by_cases h6 : x.kind = 6
  · rw [if_pos h6] at h4
    simp only [Bool.and_eq_true, beq_iff_eq] at h4
    obtain ⟨h5, h7, h8⟩ := h4
    have h5' := inB_iff.1 h5
    have : x.src = [] := List.eq_nil_of_length_eq_zero (by omega)
    refine ⟨5, by omega, by omega, by unfold I64; omega, by unfold I64; omega, ?_, by omega⟩
    rw [this]
    intro y hy
    simp at hy
  · rw [if_neg h6] at h4
    obtain ⟨i, hi, he⟩ := nodeB_kind h4
    obtain ⟨a1, a2, a3, a4⟩ := nodeB_bounds h4
    exact ⟨i, hi, he, a1, a2, a3, a4⟩
theorem bs_three (a b c d : List UInt8) : bs a ++ bs b ++ bs c ++ bs d = bs (a ++ b ++ c ++ d) := by rw [bs_app, bs_app, bs_app]
set_option maxHeartbeats 8000000 in
set_option maxRecDepth 100000 in
theorem instrText_v {v : Value} {x : InstrD} (w : World) (h : VInstr w v x) (hx : instrB x 24 4 = true) (hT : TxtT w) :
    Calls Tryd.prog 72 #[v] w fun e w' => e = .returned (.string (bs (instrStr x))) ∧ Below w.heap.size w w' := by
  obtain ⟨p, c, rfl, hr⟩ := h
  obtain ⟨E0, hE0⟩ : ∃ E, E = w.alloc (.cells #[.int .i64 x.kind, .int .i64 x.a, .int .i64 x.b, .int .i64 x.node, .slice p x.src.length c, .int .i64 x.dest] 58) := ⟨_, rfl⟩
  have hB0 : Below w.heap.size w E0 := by rw [hE0]; exact (Below.refl _ _).alloc (Nat.le_refl _) _
  have ba : Box E0 w.heap.size [.int .i64 x.kind, .int .i64 x.a, .int .i64 x.b, .int .i64 x.node, .slice p x.src.length c, .int .i64 x.dest] 58 := by rw [hE0]; exact Box.newAt w [.int .i64 x.kind, .int .i64 x.a, .int .i64 x.b, .int .i64 x.node, .slice p x.src.length c, .int .i64 x.dest] _ rfl
  have HE0 := Lib.hid hE0
  have hr1 := hr.below hB0
  have hT1 := hT.below hB0
  have z0 := ba.cell 0 rfl
  have r0 := cell_regrown (ba.cell 0 rfl)
  have r1 := cell_regrown (ba.cell 1 rfl)
  have r2 := cell_regrown (ba.cell 2 rfl)
  have r3 := cell_regrown (ba.cell 3 rfl)
  have r4 := cell_regrown (ba.cell 4 rfl)
  have r5 := cell_regrown (ba.cell 5 rfl)
  clear hE0 hr hT
  by_cases h18 : x.kind = 18
  · obtain ⟨hn, f, hf, hf0, hf1⟩ := instr_store hx h18
    have hk : (x.kind == 18) = true := by simp [h18]
    have HS : Hid (bs (instrStr x) = ⟨#[115, 116, 111, 114, 101, 32]⟩ ++ bs (Lib.itoa x.node) ++ ⟨#[32, 111, 102, 32]⟩ ++ bs (Lib.itoa f)) := by
      unfold Hid instrStr
      rw [if_pos h18, hf]
      exact (bs_three [115, 116, 111, 114, 101, 32] (Lib.itoa x.node) [32, 111, 102, 32] (Lib.itoa f)).symm
    have KN : Hid (∀ n os, Calls Tryd.prog 16 #[.int .i64 x.node] (grow (redrawn E0 n) os) fun e w'' => e = .returned (.string (bs (Lib.itoa x.node))) ∧ ∃ p : Regrown, w'' = grow (redrawn E0 p.d) p.os) := fun n os => Calls.regrown_of (decimal_any _ (by omega) (by omega) _ (hT1.below (below_regrown _ _ _)))
    have KF : Hid (∀ n os, Calls Tryd.prog 16 #[.int .i64 f] (grow (redrawn E0 n) os) fun e w'' => e = .returned (.string (bs (Lib.itoa f))) ∧ ∃ p : Regrown, w'' = grow (redrawn E0 p.d) p.os) := fun n os => Calls.regrown_of (decimal_any _ (by omega) (by omega) _ (hT1.below (below_regrown _ _ _)))
    have sa : (bs (Lib.itoa x.node)).size ≤ 21 := by rw [bs_size]; exact Lib.itoa_length_le _ (by omega) (by omega)
    have sf : (bs (Lib.itoa f)).size ≤ 21 := by rw [bs_size]; exact Lib.itoa_length_le _ (by omega) (by omega)
    have e6 : (ByteArray.mk #[115, 116, 111, 114, 101, 32]).size = 6 := rfl
    have e4 : (ByteArray.mk #[32, 111, 102, 32]).size = 4 := rfl
    have t1 : (ByteArray.mk #[115, 116, 111, 114, 101, 32] ++ bs (Lib.itoa x.node)).size ≤ 27 := by rw [ByteArray.size_append, e6]; omega
    have t2 : (ByteArray.mk #[115, 116, 111, 114, 101, 32] ++ bs (Lib.itoa x.node) ++ ByteArray.mk #[32, 111, 102, 32]).size ≤ 31 := by rw [ByteArray.size_append, e4]; omega
    have hlen0 : 0 < x.src.length := by rw [hf]; simp
    have hl1 : (0 : Int) < (x.src.length : Int) := by omega
    obtain ⟨g, o', rfl, hb, hc⟩ := hr1.pos hlen0
    have rc := cell_regrown (hc 0 hlen0)
    have hf0' : x.src[0] = f := by simp [hf]
    rw [hf0', Nat.add_zero] at rc
    clear hc hr1 hT1 e6 e4 hx h18 hf hf0' hlen0
    go_enter Tryd.func72, Tryd.ntmps72
    go_upto_region 2 with fail
    rw [← HE0.out]
    refine wp_region_quiet_below (by kernel_rfl) (by kernel_rfl) ?_
    repeat (first | go_big_quiet_step ((first | (go_at_call 16; with_reducible exact KN.out _ _) | (go_at_call 16; with_reducible exact KF.out _ _))) | quiet_step ((first | (go_at_call 16; with_reducible exact KN.out _ _) | (go_at_call 16; with_reducible exact KF.out _ _))))
    refine wpQuiet_nil ?_
    intro _ hw'
    obtain ⟨⟨dq, osq⟩, hw''⟩ := hw'
    subst hw''
    have hq := below_regrown E0 dq osq
    go_wp2_with fail
    go_ret
    exact ⟨by rw [HS.out]; rfl, hB0.trans (hq.mono hB0.size)⟩
  · obtain ⟨hd, i, hi, he, ha, hb64, hs, hsl⟩ := instr_other hx h18
    have hk : (x.kind == 18) = false := by simp [h18]
    have e17 : (x.kind - 1).toNat = i := by omega
    have hjl := nodeStr_len hi ha hb64 hs hsl
    have HS : Hid (bs (instrStr x) = ⟨#[114]⟩ ++ bs (Lib.itoa x.dest) ++ ⟨#[32, 61, 32]⟩ ++ bs (Lib.join (wordsN i x.a x.b x.src) [32])) := by
      unfold Hid instrStr
      rw [if_neg h18, e17]
      exact (bs_three [114] (Lib.itoa x.dest) [32, 61, 32] _).symm
    have KN : Hid (∀ n os, Calls Tryd.prog 16 #[.int .i64 x.dest] (grow (redrawn E0 n) os) fun e w'' => e = .returned (.string (bs (Lib.itoa x.dest))) ∧ ∃ p : Regrown, w'' = grow (redrawn E0 p.d) p.os) := fun n os => Calls.regrown_of (decimal_any _ (by omega) (by omega) _ (hT1.below (below_regrown _ _ _)))
    have KA : Hid (∀ n os, Calls Tryd.prog 123 #[.agg #[.int .i64 x.kind, .int .i64 x.a, .int .i64 x.b, .int .i64 x.node, .slice p x.src.length c, .int .i64 x.dest]] (grow (redrawn E0 n) os) fun e w'' => e = .returned (.agg #[.int .i64 x.kind, .int .i64 x.a, .int .i64 x.b, .slice p x.src.length c]) ∧ ∃ p : Regrown, w'' = grow (redrawn E0 p.d) p.os) := fun n os => Calls.regrown_of (asNode_any _ _ _ _ _ _ _ _ _)
    have KT : Hid (∀ n os, Calls Tryd.prog 67 #[.agg #[.int .i64 x.kind, .int .i64 x.a, .int .i64 x.b, .slice p x.src.length c]] (grow (redrawn E0 n) os) fun e w'' => e = .returned (.string (bs (Lib.join (wordsN i x.a x.b x.src) [32]))) ∧ ∃ p : Regrown, w'' = grow (redrawn E0 p.d) p.os) := fun n os => by
      rw [he]
      exact Calls.regrown_of (nodeText_in i hi _ _ _ (hr1.below (below_regrown _ _ _)) ha hb64 hs hsl (hT1.below (below_regrown _ _ _)))
    have sa : (bs (Lib.itoa x.dest)).size ≤ 21 := by rw [bs_size]; exact Lib.itoa_length_le _ (by omega) (by omega)
    have sf : (bs (Lib.join (wordsN i x.a x.b x.src) [32])).size ≤ 200 := by rw [bs_size]; exact hjl
    have e1 : (ByteArray.mk #[114]).size = 1 := rfl
    have e3 : (ByteArray.mk #[32, 61, 32]).size = 3 := rfl
    have t1 : (ByteArray.mk #[114] ++ bs (Lib.itoa x.dest)).size ≤ 22 := by rw [ByteArray.size_append, e1]; omega
    have t2 : (ByteArray.mk #[114] ++ bs (Lib.itoa x.dest) ++ ByteArray.mk #[32, 61, 32]).size ≤ 25 := by rw [ByteArray.size_append, e3]; omega
    clear hr1 hT1 e1 e3 hx h18 he hi ha hb64 hs hsl hjl e17
    go_enter Tryd.func72, Tryd.ntmps72
    go_upto_region 3 with fail
    rw [← HE0.out]
    refine wp_region_quiet_below (by kernel_rfl) (by kernel_rfl) ?_
    repeat (first | go_big_quiet_step ((first | (go_at_call 16; with_reducible exact KN.out _ _) | (go_at_call 123; with_reducible exact KA.out _ _) | (go_at_call 67; with_reducible exact KT.out _ _))) | quiet_step ((first | (go_at_call 16; with_reducible exact KN.out _ _) | (go_at_call 123; with_reducible exact KA.out _ _) | (go_at_call 67; with_reducible exact KT.out _ _))))
    refine wpQuiet_nil ?_
    intro _ hw'
    obtain ⟨⟨dq, osq⟩, hw''⟩ := hw'
    subst hw''
    have hq := below_regrown E0 dq osq
    go_wp2_with fail
    go_ret
    exact ⟨by rw [HS.out]; rfl, hB0.trans (hq.mono hB0.size)⟩
set_option maxHeartbeats 8000000 in
set_option maxRecDepth 100000 in
theorem l11Text_any {b o : Nat} {x : InstrD} (w : World) (h : PInstr w b o x) (hx : instrB x 24 4 = true) :
    Calls Tryd.prog 70 #[.pointer (some ⟨b, o, none⟩)] w fun e w' => e = .returned (.string (bs (instrStr x))) ∧ Below w.heap.size w w' := by
  have HP := Lib.hid h
  have hlt := h.lt
  obtain ⟨c0, c1, c2, c3, ⟨q, d, c4, hr⟩, c5⟩ := h
  have r3 := cell_regrown c3
  have r4 := cell_regrown c4
  by_cases h18 : x.kind = 18
  · obtain ⟨hn, f, hf, hf0, hf1⟩ := instr_store hx h18
    have hk : (x.kind == 18) = true := by simp [h18]
    have HS : Hid (bs (instrStr x) = ⟨#[115, 116, 111, 114, 101, 32]⟩ ++ bs (Lib.itoa x.node) ++ ⟨#[32, 111, 102, 32]⟩ ++ bs (Lib.itoa f)) := by
      unfold Hid instrStr
      rw [if_pos h18, hf]
      exact (bs_three [115, 116, 111, 114, 101, 32] (Lib.itoa x.node) [32, 111, 102, 32] (Lib.itoa f)).symm
    have KN : Hid (∀ n os, Calls Tryd.prog 113 #[.int .i64 x.node] (grow (redrawn w n) os) fun e w'' => e = .returned (.string (bs (Lib.itoa x.node))) ∧ ∃ p : Regrown, w'' = grow (redrawn w p.d) p.os) := fun n os => Calls.regrown_of (l01Dec_any _ (by unfold I64; omega) _)
    have KF : Hid (∀ n os, Calls Tryd.prog 113 #[.int .i64 f] (grow (redrawn w n) os) fun e w'' => e = .returned (.string (bs (Lib.itoa f))) ∧ ∃ p : Regrown, w'' = grow (redrawn w p.d) p.os) := fun n os => Calls.regrown_of (l01Dec_any _ (by unfold I64; omega) _)
    have sa : (bs (Lib.itoa x.node)).size ≤ 21 := by rw [bs_size]; exact Lib.itoa_length_le _ (by omega) (by omega)
    have sf : (bs (Lib.itoa f)).size ≤ 21 := by rw [bs_size]; exact Lib.itoa_length_le _ (by omega) (by omega)
    have e6 : (ByteArray.mk #[115, 116, 111, 114, 101, 32]).size = 6 := rfl
    have e4 : (ByteArray.mk #[32, 111, 102, 32]).size = 4 := rfl
    have t1 : (ByteArray.mk #[115, 116, 111, 114, 101, 32] ++ bs (Lib.itoa x.node)).size ≤ 27 := by rw [ByteArray.size_append, e6]; omega
    have t2 : (ByteArray.mk #[115, 116, 111, 114, 101, 32] ++ bs (Lib.itoa x.node) ++ ByteArray.mk #[32, 111, 102, 32]).size ≤ 31 := by rw [ByteArray.size_append, e4]; omega
    have hlen0 : 0 < x.src.length := by rw [hf]; simp
    have hl1 : (0 : Int) < (x.src.length : Int) := by omega
    obtain ⟨g, o', rfl, hb, hc⟩ := hr.pos hlen0
    have rc := cell_regrown (hc 0 hlen0)
    have hf0' : x.src[0] = f := by simp [hf]
    rw [hf0', Nat.add_zero] at rc
    clear hc hr e6 e4 hx h18 hf hf0' hlen0
    go_enter Tryd.func70, Tryd.ntmps70
    go_upto_region 2 with fail
    refine wp_region_quiet_below (by kernel_rfl) (by kernel_rfl) ?_
    repeat (first | go_big_quiet_step ((first | (go_at_call 113; with_reducible exact KN.out _ _) | (go_at_call 113; with_reducible exact KF.out _ _))) | quiet_step ((first | (go_at_call 113; with_reducible exact KN.out _ _) | (go_at_call 113; with_reducible exact KF.out _ _))))
    refine wpQuiet_nil ?_
    intro _ hw'
    obtain ⟨⟨dq, osq⟩, hw''⟩ := hw'
    subst hw''
    have hq := below_regrown w dq osq
    go_wp2_with fail
    go_ret
    exact ⟨by rw [HS.out]; rfl, hq⟩
  · obtain ⟨hd, i, hi, he, ha, hb64, hs, hsl⟩ := instr_other hx h18
    have hk : (x.kind == 18) = false := by simp [h18]
    have e17 : (x.kind - 1).toNat = i := by omega
    have hjl := nodeStr_len hi ha hb64 hs hsl
    have HS : Hid (bs (instrStr x) = ⟨#[114]⟩ ++ bs (Lib.itoa x.dest) ++ ⟨#[32, 61, 32]⟩ ++ bs (Lib.join (wordsN i x.a x.b x.src) [32])) := by
      unfold Hid instrStr
      rw [if_neg h18, e17]
      exact (bs_three [114] (Lib.itoa x.dest) [32, 61, 32] _).symm
    have LN := Lib.hid (l11Node_any w HP.out)
    have DD : Hid (∀ W, Calls Tryd.prog 113 #[.int .i64 x.dest] W fun e w' => e = .returned (.string (bs (Lib.itoa x.dest))) ∧ Below W.heap.size W w') := fun W => l01Dec_any _ (by unfold I64; omega) W
    have TT : Hid (∀ W g, PNode W g 0 ⟨(i : Int) + 1, x.a, x.b, x.src⟩ → Calls Tryd.prog 64 #[.pointer (some ⟨g, 0, none⟩)] W fun e w' => e = .returned (.string (bs (Lib.join (wordsN i x.a x.b x.src) [32]))) ∧ Below W.heap.size W w') := fun W g hW => l06Text_in i hi _ _ W hW ha hb64 hs hsl
    have sa : (bs (Lib.itoa x.dest)).size ≤ 21 := by rw [bs_size]; exact Lib.itoa_length_le _ (by omega) (by omega)
    have sf : (bs (Lib.join (wordsN i x.a x.b x.src) [32])).size ≤ 200 := by rw [bs_size]; exact hjl
    have e1 : (ByteArray.mk #[114]).size = 1 := rfl
    have e3 : (ByteArray.mk #[32, 61, 32]).size = 3 := rfl
    have t1 : (ByteArray.mk #[114] ++ bs (Lib.itoa x.dest)).size ≤ 22 := by rw [ByteArray.size_append, e1]; omega
    have t2 : (ByteArray.mk #[114] ++ bs (Lib.itoa x.dest) ++ ByteArray.mk #[32, 61, 32]).size ≤ 25 := by rw [ByteArray.size_append, e3]; omega
    have HE := Lib.hid he
    clear e1 e3 hx h18 he hi ha hb64 hs hsl hjl e17 r3 r4
    go_enter Tryd.func70, Tryd.ntmps70
    go_upto_region 4 with (first
      | (go_at_call 121; refine LN.out.mono ?_; rintro e E1 ⟨⟨q', d', rfl, hr'⟩, hb1⟩)
      | fail)
    obtain ⟨E2, hE2⟩ : ∃ E, E = E1.alloc (.cells #[.int .i64 x.kind, .int .i64 x.a, .int .i64 x.b, .slice q' x.src.length d'] 50) := ⟨_, rfl⟩
    have hbx : Below E1.heap.size E1 E2 := by rw [hE2]; exact (Below.refl _ _).alloc (Nat.le_refl _) _
    have hb2 : Below w.heap.size w E2 := hb1.trans (hbx.mono hb1.size)
    have bn : Box E2 E1.heap.size [.int .i64 x.kind, .int .i64 x.a, .int .i64 x.b, .slice q' x.src.length d'] 50 := by rw [hE2]; exact Box.newAt E1 [.int .i64 x.kind, .int .i64 x.a, .int .i64 x.b, .slice q' x.src.length d'] _ rfl
    have hP2 : PNode E2 E1.heap.size 0 ⟨(i : Int) + 1, x.a, x.b, x.src⟩ := by
      rw [HE.out] at bn
      exact PNode.box (x := ⟨(i : Int) + 1, x.a, x.b, x.src⟩) bn (hr'.below hb2)
    have HE2 := Lib.hid hE2
    have HP2 := Lib.hid hP2
    clear hE2 hP2
    rw [← HE2.out]
    have z5 := (hb2.cell (p := ⟨b, o + 5, none⟩) hlt).trans c5
    go_wp2_with (first
      | (go_at_call 113; refine (DD.out _).mono ?_; rintro e E3 ⟨rfl, hb3⟩)
      | (go_at_call 64; refine (TT.out _ _ (HP2.out.below hb3)).mono ?_; rintro e E4 ⟨rfl, hb4⟩)
      | fail)
    go_ret
    exact ⟨by rw [HS.out]; rfl, hb2.trans ((hb3.trans (hb4.mono hb3.size)).mono hb2.size)⟩
def instrRes (x : InstrD) : ByteArray := if instrB x 24 4 = true then bs (instrStr x) else ⟨#[]⟩
theorem implInstrText_v {v : Value} {x : InstrD} (w : World) (h : VInstr w v x) (hT : TxtT w) :
    Calls Tryd.prog 37 #[v] w fun e w' => e = .returned (.string (instrRes x)) ∧ Below w.heap.size w w' := by
  have hv := h
  obtain ⟨p, c, rfl, hr⟩ := hv
  obtain ⟨E0, hE0⟩ : ∃ E, E = w.alloc (.cells #[.int .i64 x.kind, .int .i64 x.a, .int .i64 x.b, .int .i64 x.node, .slice p x.src.length c, .int .i64 x.dest] 58) := ⟨_, rfl⟩
  have hB0 : Below w.heap.size w E0 := by rw [hE0]; exact (Below.refl _ _).alloc (Nat.le_refl _) _
  have ba : Box E0 w.heap.size [.int .i64 x.kind, .int .i64 x.a, .int .i64 x.b, .int .i64 x.node, .slice p x.src.length c, .int .i64 x.dest] 58 := by rw [hE0]; exact Box.newAt w [.int .i64 x.kind, .int .i64 x.a, .int .i64 x.b, .int .i64 x.node, .slice p x.src.length c, .int .i64 x.dest] _ rfl
  have HE0 := Lib.hid hE0
  have z0 := ba.cell 0 rfl
  have z1 := ba.cell 1 rfl
  have z2 := ba.cell 2 rfl
  have z3 := ba.cell 3 rfl
  have z4 := ba.cell 4 rfl
  have z5 := ba.cell 5 rfl
  clear hE0
  have ON := Lib.hid (isInstr_v 24 4 E0 (h.below hB0) (by omega) (by omega))
  cases hx : instrB x 24 4
  · rw [hx] at ON
    have HR : Hid (instrRes x = ⟨#[]⟩) := by unfold Hid instrRes; rw [if_neg (by rw [hx]; decide)]
    go_enter Tryd.func37, Tryd.ntmps37
    go_upto_region 1 with fail
    rw [← HE0.out]
    go_wp2_with (first | (go_at_call 71; refine ON.out.mono ?_; rintro e w1 ⟨rfl, hb⟩) | fail)
    go_ret
    exact ⟨by rw [HR.out]; rfl, hB0.trans (hb.mono hB0.size)⟩
  · rw [hx] at ON
    have HR : Hid (instrRes x = bs (instrStr x)) := by unfold Hid instrRes; rw [if_pos hx]
    have NT : Hid (∀ W, Below E0.heap.size E0 W → Calls Tryd.prog 72 #[.agg #[.int .i64 x.kind, .int .i64 x.a, .int .i64 x.b, .int .i64 x.node, .slice p x.src.length c, .int .i64 x.dest]] W fun e w' => e = .returned (.string (bs (instrStr x))) ∧ Below W.heap.size W w') := fun W hW => instrText_v W ((h.below hB0).below hW) hx ((hT.below hB0).below hW)
    go_enter Tryd.func37, Tryd.ntmps37
    go_upto_region 1 with fail
    rw [← HE0.out]
    go_wp2_with (first | (go_at_call 71; refine ON.out.mono ?_; rintro e w1 ⟨rfl, hb⟩; have bb := ba.below hb; have y0 := bb.cell 0 rfl; have y1 := bb.cell 1 rfl; have y2 := bb.cell 2 rfl; have y3 := bb.cell 3 rfl; have y4 := bb.cell 4 rfl; have y5 := bb.cell 5 rfl) | (go_at_call 72; refine (NT.out _ hb).mono ?_; rintro e w2 ⟨rfl, hb2⟩) | fail)
    go_ret
    exact ⟨by rw [HR.out]; rfl, hB0.trans ((hb.trans (hb2.mono hb.size)).mono hB0.size)⟩
theorem specInstrText_v {v : Value} {x : InstrD} (w : World) (h : VInstr w v x) :
    Calls Tryd.prog 35 #[v] w fun e w' => e = .returned (.string (instrRes x)) ∧ Below w.heap.size w w' := by
  have hv := h
  obtain ⟨p, c, rfl, hr⟩ := hv
  obtain ⟨E0, hE0⟩ : ∃ E, E = w.alloc (.cells #[.int .i64 x.kind, .int .i64 x.a, .int .i64 x.b, .int .i64 x.node, .slice p x.src.length c, .int .i64 x.dest] 58) := ⟨_, rfl⟩
  have hB0 : Below w.heap.size w E0 := by rw [hE0]; exact (Below.refl _ _).alloc (Nat.le_refl _) _
  have ba : Box E0 w.heap.size [.int .i64 x.kind, .int .i64 x.a, .int .i64 x.b, .int .i64 x.node, .slice p x.src.length c, .int .i64 x.dest] 58 := by rw [hE0]; exact Box.newAt w [.int .i64 x.kind, .int .i64 x.a, .int .i64 x.b, .int .i64 x.node, .slice p x.src.length c, .int .i64 x.dest] _ rfl
  have HE0 := Lib.hid hE0
  have hP : PInstr E0 w.heap.size 0 x := ⟨ba.cell 0 rfl, ba.cell 1 rfl, ba.cell 2 rfl, ba.cell 3 rfl, ⟨p, c, ba.cell 4 rfl, hr.below hB0⟩, ba.cell 5 rfl⟩
  clear hE0
  have ON := Lib.hid (l11Instr_any 24 4 E0 hP (by omega) (by omega))
  cases hx : instrB x 24 4
  · rw [hx] at ON
    have HR : Hid (instrRes x = ⟨#[]⟩) := by unfold Hid instrRes; rw [if_neg (by rw [hx]; decide)]
    go_enter Tryd.func35, Tryd.ntmps35
    go_upto_region 1 with fail
    rw [← HE0.out]
    go_wp2_with (first | (go_at_call 69; refine ON.out.mono ?_; rintro e w1 ⟨rfl, hb⟩) | fail)
    go_ret
    exact ⟨by rw [HR.out]; rfl, hB0.trans (hb.mono hB0.size)⟩
  · rw [hx] at ON
    have HR : Hid (instrRes x = bs (instrStr x)) := by unfold Hid instrRes; rw [if_pos hx]
    have NT : Hid (∀ W, Below E0.heap.size E0 W → Calls Tryd.prog 70 #[.pointer (some ⟨w.heap.size, 0, none⟩)] W fun e w' => e = .returned (.string (bs (instrStr x))) ∧ Below W.heap.size W w') := fun W hW => l11Text_any W (hP.below hW) hx
    go_enter Tryd.func35, Tryd.ntmps35
    go_upto_region 1 with fail
    rw [← HE0.out]
    go_wp2_with (first | (go_at_call 69; refine ON.out.mono ?_; rintro e w1 ⟨rfl, hb⟩) | (go_at_call 70; refine (NT.out _ hb).mono ?_; rintro e w2 ⟨rfl, hb2⟩) | fail)
    go_ret
    exact ⟨by rw [HR.out]; rfl, hB0.trans ((hb.trans (hb2.mono hb.size)).mono hB0.size)⟩
end Go.Proofs.YtnhhghilejeegaaDoor
