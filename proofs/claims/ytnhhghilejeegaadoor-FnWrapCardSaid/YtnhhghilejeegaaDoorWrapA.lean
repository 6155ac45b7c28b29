/-
  The law on samples: what is drawn, sums and products of samples.
-/
import Derived.Test.YtnhhghilejeegaaDoorPoly
namespace Go.Proofs.YtnhhghilejeegaaDoor
open Go.ChangeShapes Go.WideShapes Go.ChangeAt Go.RowKit
set_option linter.unusedVariables false

theorem i64_wrap (x : Int) : I64 (IntKind.i64.wrap x) := by
  have : IntKind.i64.wrap x = (x + 9223372036854775808) % 18446744073709551616 - 9223372036854775808 := by
    simp [IntKind.wrap, IntKind.bits, IntKind.signed]; omega
  unfold I64
  omega
theorem i64_wrap64 (x : Int) : I64 (wrap64 x) := by unfold I64 wrap64; omega
set_option maxHeartbeats 2000000 in
theorem l01DrawWide_any {g m : Nat} (w : World) (h : SrcAt w g m) (hm : m + 40 ≤ 1099511627776) :
    Calls Tryd.prog 49 #[.pointer (some ⟨g, 0, none⟩)] w (Draws w g (m + 12) I64) := by
  go_enter Tryd.func49, Tryd.ntmps49
  go_wp2_with fail
  refine (pick_any 4 w h (by omega) (by omega)).mono ?_
  rintro e w1 ⟨x, hx, rfl, hs1, ho1⟩
  have hx1 := (pickP_pos hx (by omega)).1
  have hx2 := (pickP_pos hx (by omega)).2
  have HS1 := Lib.hid hs1
  have HO1 := Lib.hid ho1
  clear hx h hs1 ho1
  by_cases x0 : x = 0
  · subst x0
    have A1 := Lib.hid (amongLit_any [-9223372036854775808, 9223372036854775807, 4294967296, -4294967296, 2147483648, -2147483649, 4294967295] w1 HS1.out (by simp) (by simp) (by omega))
    go_wp2_with (go_at_call 92; refine A1.out.mono ?_; rintro e w2 ⟨y, hy, rfl, hs2, ho2⟩)
    go_ret
    refine ⟨y, ?_, rfl, hs2.mono (by omega), HO1.out.trans ho2⟩
    simp only [List.mem_cons, List.not_mem_nil, or_false] at hy
    unfold I64
    omega
  have q0 : (x == 0) = false := by rw [beq_eq_false_iff_ne]; exact x0
  by_cases x1 : x = 1
  · subst x1
    go_wp2_with fail
    refine (next_any w1 HS1.out (by omega)).mono ?_
    rintro e w2 ⟨y, hy, rfl, hs2, ho2⟩
    have HY : Hid (I64 y) := by have := hy.1; have := hy.2; unfold Hid I64; omega
    have HO2 := Lib.hid (HO1.out.trans ho2)
    clear hy ho2
    go_wp2_with fail
    go_loopw [3, 4] (fun n k wr => ∃ (j : Nat) (z : Int), j ≤ 7 ∧ k = .int .i64 (j : Int) ∧ n = .int .i64 z ∧ Hid (I64 z) ∧ SrcAt wr g (m + 3 + j) ∧ Off (· = g) w wr) (fun _ k _ => (7 - intOf k).toNat)
    case atStart => exact ⟨0, y, by omega, rfl, rfl, HY, hs2.mono (by omega), HO2.out⟩
    case round =>
      obtain ⟨j, z, hj, rfl, rfl, HZ, hs, ho⟩ := hrel
      have HS := Lib.hid hs
      have HO := Lib.hid ho
      clear hs ho
      obtain ⟨wi, rfl⟩ : ∃ wi : World, wi = wr := ⟨_, rfl⟩
      by_cases hjt : j < 7
      · go_wp2_with fail
        refine (next_any wi HS.out (by omega)).mono ?_
        rintro e w3 ⟨t, ht, rfl, hs3, ho3⟩
        have HO3 := Lib.hid (HO.out.trans ho3)
        have HS3 : Hid (SrcAt w3 g (m + 3 + (j + 1))) := hs3.mono (by omega)
        clear ht ho3 hs3
        go_wp2_with fail
        go_roundw
        case rel => exact ⟨j + 1, _, by omega, by go_num, rfl, by first | exact i64_wrap64 _ | exact i64_wrap _, HS3.out, HO3.out⟩
        case measure => simp [intOf] <;> omega
      · obtain rfl : j = 7 := by omega
        go_wp2_with fail
        go_ret
        exact ⟨_, HZ.out, rfl, HS.out.mono (by omega), HO.out⟩
  have q1 : (x == 1) = false := by rw [beq_eq_false_iff_ne]; exact x1
  go_wp2_with fail
  refine (l01Draw_any w1 HS1.out (by omega)).mono ?_
  rintro e w2 ⟨y, hy, rfl, hs2, ho2⟩
  go_wp2_with fail
  go_ret
  refine ⟨y, ?_, rfl, hs2.mono (by omega), HO1.out.trans ho2⟩
  have := isSmp_iff.1 hy
  unfold I64
  omega
/-- two numbers were drawn -/
def Draw2 (w : World) (e : Ending) (w' : World) : Prop := ∃ a b, I64 a ∧ I64 b ∧ e = .returned (.tuple #[.int .i64 a, .int .i64 b]) ∧ Below w.heap.size w w'
set_option maxHeartbeats 1000000 in
theorem drawWrapAdd_any {p : Option Addr} {c : Nat} {bs : List Int} (w : World) (hr : RdB w p bs) (hl : bs.length ≤ 1048576) :
    Calls Tryd.prog 10 #[.slice p bs.length c] w (Draw2 w) := by
  go_enter Tryd.func10, Tryd.ntmps10
  go_wp2_with fail
  refine (l00From_any w hr hl).mono ?_
  rintro e w1 ⟨rfl, hs1, hb1⟩
  go_wp2_with fail
  refine (l01DrawWide_any w1 hs1 (by omega)).mono ?_
  rintro e w2 ⟨x, hx, rfl, hs2, ho2⟩
  go_wp2_with fail
  refine (l01DrawWide_any w2 hs2 (by omega)).mono ?_
  rintro e w3 ⟨y, hy, rfl, hs3, ho3⟩
  go_wp2_with fail
  go_ret2
  exact ⟨x, y, hx, hy, rfl, hb1.trans ((ho2.trans ho3).below (B := w.heap.size) (fun k hk => by have : k = w.heap.size := hk; omega) hb1.size)⟩
set_option maxHeartbeats 1000000 in
theorem drawWrapMul_any {p : Option Addr} {c : Nat} {bs : List Int} (w : World) (hr : RdB w p bs) (hl : bs.length ≤ 1048576) :
    Calls Tryd.prog 11 #[.slice p bs.length c] w (Draw2 w) := by
  go_enter Tryd.func11, Tryd.ntmps11
  go_wp2_with fail
  refine (l00From_any w hr hl).mono ?_
  rintro e w1 ⟨rfl, hs1, hb1⟩
  go_wp2_with fail
  refine (l01DrawWide_any w1 hs1 (by omega)).mono ?_
  rintro e w2 ⟨x, hx, rfl, hs2, ho2⟩
  go_wp2_with fail
  refine (l01DrawWide_any w2 hs2 (by omega)).mono ?_
  rintro e w3 ⟨y, hy, rfl, hs3, ho3⟩
  go_wp2_with fail
  go_ret2
  exact ⟨x, y, hx, hy, rfl, hb1.trans ((ho2.trans ho3).below (B := w.heap.size) (fun k hk => by have : k = w.heap.size := hk; omega) hb1.size)⟩
theorem iwrapAdd_any (a b : Int) (w : World) :
    Calls Tryd.prog 12 #[.int .i64 a, .int .i64 b] w fun e w' => e = .returned (.int .i64 (smp (a + b))) ∧ w' = w := by
  go_enter Tryd.func12, Tryd.ntmps12
  go_wp2_with (go_at_call 14; refine (implWrap_any _ _).mono ?_; rintro e w' ⟨rfl, rfl⟩)
  go_ret
  exact ⟨ret_int (smp_wrap64 _), rfl⟩
theorem iwrapMul_any (a b : Int) (w : World) :
    Calls Tryd.prog 13 #[.int .i64 a, .int .i64 b] w fun e w' => e = .returned (.int .i64 (smp (a * b))) ∧ w' = w := by
  go_enter Tryd.func13, Tryd.ntmps13
  go_wp2_with (go_at_call 14; refine (implWrap_any _ _).mono ?_; rintro e w' ⟨rfl, rfl⟩)
  go_ret
  exact ⟨ret_int (smp_wrap64 _), rfl⟩
theorem validSample_any (n : Int) (w : World) :
    Calls Tryd.prog 17 #[.int .i64 n] w fun e w' => e = .returned (.bool (isSmp n)) ∧ w' = w := by
  go_enter Tryd.func17, Tryd.ntmps17
  go_wp2_with (go_at_call 53; refine (isSample_any _ _).mono ?_; rintro e w' ⟨rfl, rfl⟩)
  go_ret
  exact ⟨rfl, rfl⟩
theorem b10Long_any (p : Option Addr) (n c : Nat) (w : World) (hn : n ≤ maxLen) :
    Calls Tryd.prog 9 #[.slice p n c] w fun e w' => e = .returned (.bool (decide (1048576 < (n : Int)))) ∧ w' = w := by
  unfold maxLen at hn
  go_enter Tryd.func9, Tryd.ntmps9
  go_wp2
  go_ret
  exact ⟨rfl, rfl⟩
end Go.Proofs.YtnhhghilejeegaaDoor
