/-
  Instructions: validity on the reference's side; their texts, on both sides.
-/
import Derived.Test.YtabfdnkomhjlkaaTxtI
namespace Go.Proofs.Ytabfdnkomhjlkaa
open Go.ChangeShapes Go.WideShapes Go.ChangeAt Go.RowKit Go.Sort
set_option linter.unusedVariables false
set_option linter.unusedSimpArgs false

theorem instr_eq6 (x : InstrD) (r t : Int) (h1 : inB x.node 0 23 = true) (h2 : x.src.all (fun f => inB f 0 (r - 1)) = true) (h3 : x.kind ≠ 18) (h4 : x.kind = 6) :
    instrB x r t = (((x.src.length : Int) == 0) && (inB x.a 1 16 && ((x.b == 0) && inB x.dest 0 (r - 1)))) := by
  unfold instrB
  rw [h1, h2, if_neg h3, if_pos h4]
  cases inB x.dest 0 (r - 1) <;> cases inB x.a 1 16 <;> cases (x.b == 0) <;> cases ((x.src.length : Int) == 0) <;> rfl
theorem instr_eqn (x : InstrD) (r t : Int) (h1 : inB x.node 0 23 = true) (h2 : x.src.all (fun f => inB f 0 (r - 1)) = true) (h3 : x.kind ≠ 18) (h4 : x.kind ≠ 6) :
    instrB x r t = (nodeB (nodeOf x) t && inB x.dest 0 (r - 1)) := by
  unfold instrB
  rw [h1, h2, if_neg h3, if_neg h4]
  cases inB x.dest 0 (r - 1) <;> cases nodeB (nodeOf x) t <;> rfl
theorem all_take {f : Int → Bool} {xs : List Int} {k : Nat} (h : k < xs.length) (ht : (xs.take k).all f = true) (hf : f xs[k] = true) : (xs.take (k + 1)).all f = true := by
  rw [List.take_succ_eq_append_getElem h, List.all_append, ht]
  simp [hf]
theorem all_not {f : Int → Bool} {xs : List Int} {k : Nat} (h : k < xs.length) (hf : f xs[k] = false) : xs.all f = false := by
  cases hx : xs.all f
  · rfl
  · have := List.all_eq_true.1 hx _ (List.getElem_mem h)
    rw [hf] at this
    cases this
set_option maxHeartbeats 8000000 in
set_option maxRecDepth 100000 in
theorem l11Instr_any {b o : Nat} {x : InstrD} (r t : Int) (w : World) (h : PInstr w b o x) (hr0 : 0 ≤ r) (hr1 : r ≤ 1048576) :
    Calls Try.prog 34 #[.pointer (some ⟨b, o, none⟩), .int .i64 r, .int .i64 t] w fun e w' => e = .returned (.bool (instrB x r t)) ∧ Below w.heap.size w w' := by
  have HP := Lib.hid h
  have hlt := h.lt
  obtain ⟨c0, c1, c2, c3, ⟨q, d, c4, hr⟩, c5⟩ := h
  have hl := hr.len
  unfold maxLen at hl
  have HR := Lib.hid hr
  have HQ := Lib.hid (instr_eqs x r t)
  have HQ6 := Lib.hid (instr_eq6 x r t)
  have HQn := Lib.hid (instr_eqn x r t)
  generalize instrB x r t = R at HQ HQ6 HQn ⊢
  have LI : Hid (∀ n lo hi b, inB n lo hi = b → Calls Try.prog 26 #[.int .i64 n, .int .i64 lo, .int .i64 hi] w fun e w' => e = .returned (.bool b) ∧ w' = w) := fun n lo hi b hb => by
    have := Calls.turn (l00In_any n lo hi w)
    rwa [hb] at this
  have LN := Lib.hid (l11Node_any w HP.out)
  have wr1 : wrap64 (r - 1) = r - 1 := by unfold wrap64; omega
  have wr2 : IntKind.i64.wrap (r - 1) = r - 1 := IntWalk.i64_in _ (by omega)
  clear hr
  cases b1 : inB x.node 0 23
  · obtain rfl := HQ.out.1 b1
    clear HQ HQ6 HQn
    go_enter Try.func34, Try.ntmps34
    go_wp2_with (first | (go_at_call 26; with_reducible refine (LI.out _ _ _ _ b1).mono ?_; rintro e w' ⟨rfl, hw⟩; rw [hw]) | fail)
    go_ret
    exact ⟨rfl, Below.refl _ _⟩
  go_enter Try.func34, Try.ntmps34
  go_wp2_with (first | (go_at_call 26; with_reducible refine (LI.out _ _ _ _ b1).mono ?_; rintro e w' ⟨rfl, hw⟩; rw [hw]) | fail)
  go_loopw [7] (fun i wr => ∃ k : Nat, k ≤ x.src.length ∧ i = .int .i64 (k : Int) ∧ Hid ((x.src.take k).all (fun f => inB f 0 (r - 1)) = true) ∧ wr = w) (fun i _ => ((x.src.length : Int) - intOf i).toNat)
  case atStart => exact ⟨0, Nat.zero_le _, rfl, by simp [Hid], rfl⟩
  case round =>
    obtain ⟨k, hk, rfl, HK, rfl⟩ := hrel
    by_cases hkt : k < x.src.length
    · obtain ⟨g, o', rfl, hb, hc⟩ := HR.out.pos hkt
      have hck := hc k hkt
      cases bk : inB x.src[k] 0 (r - 1)
      · have b2 : x.src.all (fun f => inB f 0 (r - 1)) = false := all_not hkt bk
        have e := HQ.out.2.1 b1 b2
        obtain rfl := e
        clear HQ HQ6 HQn b2
        generalize x.src[k] = y at hck bk
        clear hc
        go_wp2_with (first | (go_at_call 26; with_reducible refine (LI.out _ _ _ _ bk).mono ?_; rintro e w' ⟨rfl, hw⟩; rw [hw]) | fail)
        go_ret
        exact ⟨rfl, Below.refl _ _⟩
      · have HK1 : Hid ((x.src.take (k + 1)).all (fun f => inB f 0 (r - 1)) = true) := all_take hkt HK.out bk
        generalize x.src[k] = y at hck bk
        clear hc
        go_wp2_with (first | (go_at_call 26; with_reducible refine (LI.out _ _ _ _ bk).mono ?_; rintro e w' ⟨rfl, hw⟩; rw [hw]) | fail)
        go_roundw
        case rel => exact ⟨k + 1, by omega, by go_num, HK1, by first | trivial | rfl⟩
        case measure => simp [intOf] <;> omega
    · obtain rfl : k = x.src.length := by omega
      have b2 : x.src.all (fun f => inB f 0 (r - 1)) = true := by have := HK.out; rwa [List.take_length] at this
      by_cases k18 : x.kind = 18
      · have hk : (x.kind == 18) = true := by simp [k18]
        have b3 := b1
        have b4 := b1
        have HS := Lib.hid (HQ.out.2.2.1 b1 b2 k18)
        clear HQ HQ6 HQn k18 b2
        cases s1 : ((x.src.length : Int) == 1)
        case false =>
          rw [s1] at HS
          go_wp2_with (first
            | (go_at_call 26; with_reducible refine (LI.out _ _ _ _ b3).mono ?_; rintro e w' ⟨rfl, hw⟩; rw [hw])
            | (go_at_call 26; with_reducible refine (LI.out _ _ _ _ b4).mono ?_; rintro e w' ⟨rfl, hw⟩; rw [hw])
            | fail)
          go_ret
          exact ⟨by rw [HS.out]; simp, Below.refl _ _⟩
        case true =>
          rw [s1] at HS
          cases s2 : (x.a == 0)
          case false =>
            rw [s2] at HS
            go_wp2_with (first
              | (go_at_call 26; with_reducible refine (LI.out _ _ _ _ b3).mono ?_; rintro e w' ⟨rfl, hw⟩; rw [hw])
              | (go_at_call 26; with_reducible refine (LI.out _ _ _ _ b4).mono ?_; rintro e w' ⟨rfl, hw⟩; rw [hw])
              | fail)
            go_ret
            exact ⟨by rw [HS.out]; simp, Below.refl _ _⟩
          case true =>
            rw [s2] at HS
            cases s3 : (x.b == 0)
            case false =>
              rw [s3] at HS
              go_wp2_with (first
                | (go_at_call 26; with_reducible refine (LI.out _ _ _ _ b3).mono ?_; rintro e w' ⟨rfl, hw⟩; rw [hw])
                | (go_at_call 26; with_reducible refine (LI.out _ _ _ _ b4).mono ?_; rintro e w' ⟨rfl, hw⟩; rw [hw])
                | fail)
              go_ret
              exact ⟨by rw [HS.out]; simp, Below.refl _ _⟩
            case true =>
              rw [s3] at HS
              cases s4 : (x.dest == 0)
              case false =>
                rw [s4] at HS
                go_wp2_with (first
                  | (go_at_call 26; with_reducible refine (LI.out _ _ _ _ b3).mono ?_; rintro e w' ⟨rfl, hw⟩; rw [hw])
                  | (go_at_call 26; with_reducible refine (LI.out _ _ _ _ b4).mono ?_; rintro e w' ⟨rfl, hw⟩; rw [hw])
                  | fail)
                go_ret
                exact ⟨by rw [HS.out]; simp, Below.refl _ _⟩
              case true =>
                rw [s4] at HS
                go_wp2_with (first
                  | (go_at_call 26; with_reducible refine (LI.out _ _ _ _ b3).mono ?_; rintro e w' ⟨rfl, hw⟩; rw [hw])
                  | (go_at_call 26; with_reducible refine (LI.out _ _ _ _ b4).mono ?_; rintro e w' ⟨rfl, hw⟩; rw [hw])
                  | fail)
                go_ret
                exact ⟨by rw [HS.out]; simp, Below.refl _ _⟩
      have hk : (x.kind == 18) = false := by simp [k18]
      by_cases k6 : x.kind = 6
      · have hk6 : (x.kind == 6) = true := by simp [k6]
        have HS := Lib.hid (HQ6.out b1 b2 k18 k6)
        clear HQ HQ6 HQn k18 k6 b2
        cases s1 : ((x.src.length : Int) == 0)
        case false =>
          rw [s1] at HS
          have b3 := b1
          have b4 := b1
          go_wp2_with (first
            | (go_at_call 26; with_reducible refine (LI.out _ _ _ _ b3).mono ?_; rintro e w' ⟨rfl, hw⟩; rw [hw])
            | (go_at_call 26; with_reducible refine (LI.out _ _ _ _ b4).mono ?_; rintro e w' ⟨rfl, hw⟩; rw [hw])
            | fail)
          go_ret
          exact ⟨by rw [HS.out]; simp, Below.refl _ _⟩
        case true =>
          rw [s1] at HS
          cases b4 : inB x.a 1 16
          case false =>
            rw [b4] at HS
            have b3 := b1
            go_wp2_with (first
              | (go_at_call 26; with_reducible refine (LI.out _ _ _ _ b3).mono ?_; rintro e w' ⟨rfl, hw⟩; rw [hw])
              | (go_at_call 26; with_reducible refine (LI.out _ _ _ _ b4).mono ?_; rintro e w' ⟨rfl, hw⟩; rw [hw])
              | fail)
            go_ret
            exact ⟨by rw [HS.out]; simp, Below.refl _ _⟩
          case true =>
            rw [b4] at HS
            cases s3 : (x.b == 0)
            case false =>
              rw [s3] at HS
              have b3 := b1
              go_wp2_with (first
                | (go_at_call 26; with_reducible refine (LI.out _ _ _ _ b3).mono ?_; rintro e w' ⟨rfl, hw⟩; rw [hw])
                | (go_at_call 26; with_reducible refine (LI.out _ _ _ _ b4).mono ?_; rintro e w' ⟨rfl, hw⟩; rw [hw])
                | fail)
              go_ret
              exact ⟨by rw [HS.out]; simp, Below.refl _ _⟩
            case true =>
              rw [s3] at HS
              cases b3 : inB x.dest 0 (r - 1)
              case false =>
                rw [b3] at HS
                go_wp2_with (first
                  | (go_at_call 26; with_reducible refine (LI.out _ _ _ _ b3).mono ?_; rintro e w' ⟨rfl, hw⟩; rw [hw])
                  | (go_at_call 26; with_reducible refine (LI.out _ _ _ _ b4).mono ?_; rintro e w' ⟨rfl, hw⟩; rw [hw])
                  | fail)
                go_ret
                exact ⟨by rw [HS.out]; simp, Below.refl _ _⟩
              case true =>
                rw [b3] at HS
                go_wp2_with (first
                  | (go_at_call 26; with_reducible refine (LI.out _ _ _ _ b3).mono ?_; rintro e w' ⟨rfl, hw⟩; rw [hw])
                  | (go_at_call 26; with_reducible refine (LI.out _ _ _ _ b4).mono ?_; rintro e w' ⟨rfl, hw⟩; rw [hw])
                  | fail)
                go_ret
                exact ⟨by rw [HS.out]; simp, Below.refl _ _⟩
      have hk6 : (x.kind == 6) = false := by simp [k6]
      have HS := Lib.hid (HQn.out b1 b2 k18 k6)
      clear HQ HQ6 HQn k18 k6 b2
      have LO : Hid (∀ W g x', PNode W g 0 x' → x' = nodeOf x → Calls Try.prog 48 #[.pointer (some ⟨g, 0, none⟩), .int .i64 t] W fun e w' => e = .returned (.bool (nodeB (nodeOf x) t)) ∧ Below W.heap.size W w') := fun W g x' hW hx => by
        subst hx
        exact l06Ok_any t W hW
      have LI2 : Hid (∀ W n lo hi b, inB n lo hi = b → Calls Try.prog 26 #[.int .i64 n, .int .i64 lo, .int .i64 hi] W fun e w' => e = .returned (.bool b) ∧ w' = W) := fun W n lo hi b hb => by
        have := Calls.turn (l00In_any n lo hi W)
        rwa [hb] at this
      go_upto_region 14 with (first
        | (go_at_call 47; refine LN.out.mono ?_; rintro e E1 ⟨⟨q', d', rfl, hr'⟩, hb1⟩)
        | fail)
      obtain ⟨E2, hE2⟩ : ∃ E, E = E1.alloc (.cells #[.int .i64 x.kind, .int .i64 x.a, .int .i64 x.b, .slice q' x.src.length d'] 71) := ⟨_, rfl⟩
      have hbx : Below E1.heap.size E1 E2 := by rw [hE2]; exact (Below.refl _ _).alloc (Nat.le_refl _) _
      have hb2 : Below wr.heap.size wr E2 := hb1.trans (hbx.mono hb1.size)
      have bn : Box E2 E1.heap.size [.int .i64 x.kind, .int .i64 x.a, .int .i64 x.b, .slice q' x.src.length d'] 71 := by rw [hE2]; exact Box.newAt E1 [.int .i64 x.kind, .int .i64 x.a, .int .i64 x.b, .slice q' x.src.length d'] _ rfl
      have hP2 : PNode E2 E1.heap.size 0 (nodeOf x) := PNode.box (x := nodeOf x) bn (hr'.below hb2)
      have LO2 := Lib.hid (LO.out E2 _ _ hP2 rfl)
      have HE2 := Lib.hid hE2
      clear hE2 LO
      rw [← HE2.out]
      cases bn2 : nodeB (nodeOf x) t
      · rw [bn2] at LO2 HS
        go_wp2_with (first | (go_at_call 48; refine LO2.out.mono ?_; rintro e E3 ⟨rfl, hb3⟩) | fail)
        go_ret
        exact ⟨by rw [HS.out]; simp, hb2.trans (hb3.mono hb2.size)⟩
      · rw [bn2] at LO2 HS
        cases b3 : inB x.dest 0 (r - 1)
        all_goals
          rw [b3] at HS
          go_wp2_with (first | (go_at_call 48; refine LO2.out.mono ?_; rintro e E3 ⟨rfl, hb3⟩; have z5 := ((hb2.trans (hb3.mono hb2.size)).cell (p := ⟨b, o + 5, none⟩) hlt).trans c5) | (go_at_call 26; with_reducible refine (LI2.out _ _ _ _ _ b3).mono ?_; rintro e w' ⟨rfl, hw⟩; rw [hw]) | fail)
          go_ret
          exact ⟨by rw [HS.out]; simp, hb2.trans (hb3.mono hb2.size)⟩
end Go.Proofs.Ytabfdnkomhjlkaa
