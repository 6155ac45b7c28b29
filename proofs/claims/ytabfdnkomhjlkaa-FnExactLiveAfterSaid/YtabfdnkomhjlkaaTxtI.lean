/-
  Instructions: validity, on both sides.
-/
import Derived.Test.YtabfdnkomhjlkaaTyInstr
import Derived.Test.YtabfdnkomhjlkaaPInstr
import Derived.Test.YtabfdnkomhjlkaaPat
import Derived.StillTailTactics
namespace Go.Proofs.Ytabfdnkomhjlkaa
open Go.ChangeShapes Go.WideShapes Go.ChangeAt Go.RowKit Go.Sort
set_option linter.unusedVariables false
set_option linter.unusedSimpArgs false

def nodeOf (x : InstrD) : NodeD := ⟨x.kind, x.a, x.b, x.src⟩
theorem asNode_any (k a b n t : Int) (q : Option Addr) (l d : Nat) (w : World) :
    Calls Try.prog 52 #[.agg #[.int .i64 k, .int .i64 a, .int .i64 b, .int .i64 n, .slice q l d, .int .i64 t]] w fun e w' => e = .returned (.agg #[.int .i64 k, .int .i64 a, .int .i64 b, .slice q l d]) ∧ Below w.heap.size w w' := by
  go_enter Try.func52, Try.ntmps52
  go_wp2_with fail
  refine bodyPost_ret (v := .agg #[.int .i64 k, .int .i64 a, .int .i64 b, .slice q l d]) (by simp [results, Try.results52, go_sem, *]) rfl ⟨rfl, ?_⟩
  (repeat (first | exact Below.refl _ _ | assumption | refine Below.setCell ?_ (by first | exact Nat.le_refl _ | omega | (simp; done) | (simp; omega)) _ | refine Below.alloc ?_ (by first | exact Nat.le_refl _ | omega | (simp; done) | (simp; omega)) _ | refine below_drewN ?_ _))
/-- a valid instruction, for some registers and tables -/
def instrB (x : InstrD) (r t : Int) : Bool :=
  inB x.node 0 23 && (x.src.all (fun f => inB f 0 (r - 1)) &&
    (if x.kind = 18 then ((x.src.length : Int) == 1) && (x.a == 0 && (x.b == 0 && x.dest == 0))
     else inB x.dest 0 (r - 1) && (if x.kind = 6 then inB x.a 1 16 && (x.b == 0 && ((x.src.length : Int) == 0)) else nodeB (nodeOf x) t)))
theorem instr_eqs (x : InstrD) (r t : Int) :
    (inB x.node 0 23 = false → instrB x r t = false) ∧
    (inB x.node 0 23 = true → x.src.all (fun f => inB f 0 (r - 1)) = false → instrB x r t = false) ∧
    (inB x.node 0 23 = true → x.src.all (fun f => inB f 0 (r - 1)) = true → x.kind = 18 → instrB x r t = (((x.src.length : Int) == 1) && (x.a == 0 && (x.b == 0 && x.dest == 0)))) ∧
    (inB x.node 0 23 = true → x.src.all (fun f => inB f 0 (r - 1)) = true → x.kind ≠ 18 → inB x.dest 0 (r - 1) = false → instrB x r t = false) ∧
    (inB x.node 0 23 = true → x.src.all (fun f => inB f 0 (r - 1)) = true → x.kind ≠ 18 → inB x.dest 0 (r - 1) = true → x.kind = 6 → instrB x r t = (inB x.a 1 16 && (x.b == 0 && ((x.src.length : Int) == 0)))) ∧
    (inB x.node 0 23 = true → x.src.all (fun f => inB f 0 (r - 1)) = true → x.kind ≠ 18 → inB x.dest 0 (r - 1) = true → x.kind ≠ 6 → instrB x r t = nodeB (nodeOf x) t) := by
  unfold instrB
  refine ⟨?_, ?_, ?_, ?_, ?_, ?_⟩
  · intro h1; rw [h1]; rfl
  · intro h1 h2; rw [h1, h2]; rfl
  · intro h1 h2 h3; rw [h1, h2, if_pos h3]; rfl
  · intro h1 h2 h3 h4; rw [h1, h2, if_neg h3, h4]; rfl
  · intro h1 h2 h3 h4 h5; rw [h1, h2, if_neg h3, h4, if_pos h5]; rfl
  · intro h1 h2 h3 h4 h5; rw [h1, h2, if_neg h3, h4, if_neg h5]; rfl
set_option maxHeartbeats 8000000 in
set_option maxRecDepth 100000 in
theorem isInstr_v {v : Value} {x : InstrD} (r t : Int) (w : World) (h : VInstr w v x) (hr0 : 0 ≤ r) (hr1 : r ≤ 1048576) :
    Calls Try.prog 40 #[v, .int .i64 r, .int .i64 t] w fun e w' => e = .returned (.bool (instrB x r t)) ∧ Below w.heap.size w w' := by
  obtain ⟨p, c, rfl, hr⟩ := h
  have hl := hr.len
  unfold maxLen at hl
  have HQ := Lib.hid (instr_eqs x r t)
  generalize instrB x r t = R at HQ ⊢
  obtain ⟨E0, hE0⟩ : ∃ E, E = w.alloc (.cells #[.int .i64 x.kind, .int .i64 x.a, .int .i64 x.b, .int .i64 x.node, .slice p x.src.length c, .int .i64 x.dest] 54) := ⟨_, rfl⟩
  have hB0 : Below w.heap.size w E0 := by rw [hE0]; exact (Below.refl _ _).alloc (Nat.le_refl _) _
  have ba : Box E0 w.heap.size [.int .i64 x.kind, .int .i64 x.a, .int .i64 x.b, .int .i64 x.node, .slice p x.src.length c, .int .i64 x.dest] 54 := by rw [hE0]; exact Box.newAt w [.int .i64 x.kind, .int .i64 x.a, .int .i64 x.b, .int .i64 x.node, .slice p x.src.length c, .int .i64 x.dest] _ rfl
  have HE0 := Lib.hid hE0
  have z0 := ba.cell 0 rfl
  have z1 := ba.cell 1 rfl
  have z2 := ba.cell 2 rfl
  have z3 := ba.cell 3 rfl
  have z4 := ba.cell 4 rfl
  have z5 := ba.cell 5 rfl
  have AI : Hid (∀ b, x.src.all (fun f => inB f 0 (r - 1)) = b → Calls Try.prog 39 #[.slice p x.src.length c, .int .i64 r] E0 fun e w' => e = .returned (.bool b) ∧ w' = E0) := fun b hb => by
    have := Calls.turn (areIndices_any (c := c) r E0 (hr.below hB0) (by omega) (by omega))
    rwa [hb] at this
  have WI : Hid (∀ n lo hi b, inB n lo hi = b → Calls Try.prog 28 #[.int .i64 n, .int .i64 lo, .int .i64 hi] E0 fun e w' => e = .returned (.bool b) ∧ w' = E0) := fun n lo hi b hb => by
    have := Calls.turn (within_any n lo hi E0)
    rwa [hb] at this
  have NO : Hid (Calls Try.prog 52 #[.agg #[.int .i64 x.kind, .int .i64 x.a, .int .i64 x.b, .int .i64 x.node, .slice p x.src.length c, .int .i64 x.dest]] E0 fun e w' => e = .returned (.agg #[.int .i64 x.kind, .int .i64 x.a, .int .i64 x.b, .slice p x.src.length c]) ∧ Below E0.heap.size E0 w') := asNode_any _ _ _ _ _ _ _ _ _
  have IN : Hid (∀ W, Below E0.heap.size E0 W → Calls Try.prog 51 #[.agg #[.int .i64 x.kind, .int .i64 x.a, .int .i64 x.b, .slice p x.src.length c], .int .i64 t] W fun e w' => e = .returned (.bool (nodeB (nodeOf x) t)) ∧ Below W.heap.size W w') := fun W hW => isNode_v (x := nodeOf x) t W ⟨p, c, rfl, (hr.below hB0).below hW⟩
  have wr : wrap64 (r - 1) = r - 1 := by unfold wrap64; omega
  have wr' : IntKind.i64.wrap (r - 1) = r - 1 := IntWalk.i64_in _ (by omega)
  clear hE0 ba hr
  cases b1 : inB x.node 0 23
  · have b3 := b1
    have b4 := b1
    have b2 : x.src.all (fun f => inB f 0 (r - 1)) = x.src.all (fun f => inB f 0 (r - 1)) := rfl
    obtain rfl := HQ.out.1 b1
    clear HQ
    go_enter Try.func40, Try.ntmps40
    go_upto_region 1 with fail
    rw [← HE0.out]
    go_wp2_with (first
      | (go_at_call 28; with_reducible refine (WI.out _ _ _ _ b1).mono ?_; rintro e w' ⟨rfl, hw⟩; rw [hw])
      | (go_at_call 28; with_reducible refine (WI.out _ _ _ _ b3).mono ?_; rintro e w' ⟨rfl, hw⟩; rw [hw])
      | (go_at_call 28; with_reducible refine (WI.out _ _ _ _ b4).mono ?_; rintro e w' ⟨rfl, hw⟩; rw [hw])
      | (go_at_call 39; with_reducible refine (AI.out _ b2).mono ?_; rintro e w' ⟨rfl, hw⟩; rw [hw])
      | (go_at_call 52; refine NO.out.mono ?_; rintro e w1 ⟨rfl, hb1⟩)
      | (go_at_call 51; refine (IN.out _ hb1).mono ?_; rintro e w2 ⟨rfl, hb2⟩)
      | fail)
    go_ret
    exact ⟨rfl, hB0⟩
  cases b2 : x.src.all (fun f => inB f 0 (r - 1))
  · have b3 := b1
    have b4 := b1
    obtain rfl := HQ.out.2.1 b1 b2
    clear HQ
    go_enter Try.func40, Try.ntmps40
    go_upto_region 1 with fail
    rw [← HE0.out]
    go_wp2_with (first
      | (go_at_call 28; with_reducible refine (WI.out _ _ _ _ b1).mono ?_; rintro e w' ⟨rfl, hw⟩; rw [hw])
      | (go_at_call 28; with_reducible refine (WI.out _ _ _ _ b3).mono ?_; rintro e w' ⟨rfl, hw⟩; rw [hw])
      | (go_at_call 28; with_reducible refine (WI.out _ _ _ _ b4).mono ?_; rintro e w' ⟨rfl, hw⟩; rw [hw])
      | (go_at_call 39; with_reducible refine (AI.out _ b2).mono ?_; rintro e w' ⟨rfl, hw⟩; rw [hw])
      | (go_at_call 52; refine NO.out.mono ?_; rintro e w1 ⟨rfl, hb1⟩)
      | (go_at_call 51; refine (IN.out _ hb1).mono ?_; rintro e w2 ⟨rfl, hb2⟩)
      | fail)
    go_ret
    exact ⟨rfl, hB0⟩
  by_cases k18 : x.kind = 18
  · have b3 := b1
    have b4 := b1
    have hk : (x.kind == 18) = true := by simp [k18]
    have hkn : (x.kind != 18) = false := by simp [k18]
    have HR := Lib.hid (HQ.out.2.2.1 b1 b2 k18)
    clear HQ k18
    cases s1 : ((x.src.length : Int) == 1)
    case false =>
      rw [s1] at HR
      go_enter Try.func40, Try.ntmps40
      go_upto_region 1 with fail
      rw [← HE0.out]
      go_wp2_with (first
        | (go_at_call 28; with_reducible refine (WI.out _ _ _ _ b1).mono ?_; rintro e w' ⟨rfl, hw⟩; rw [hw])
        | (go_at_call 28; with_reducible refine (WI.out _ _ _ _ b3).mono ?_; rintro e w' ⟨rfl, hw⟩; rw [hw])
        | (go_at_call 28; with_reducible refine (WI.out _ _ _ _ b4).mono ?_; rintro e w' ⟨rfl, hw⟩; rw [hw])
        | (go_at_call 39; with_reducible refine (AI.out _ b2).mono ?_; rintro e w' ⟨rfl, hw⟩; rw [hw])
        | (go_at_call 52; refine NO.out.mono ?_; rintro e w1 ⟨rfl, hb1⟩)
        | (go_at_call 51; refine (IN.out _ hb1).mono ?_; rintro e w2 ⟨rfl, hb2⟩)
        | fail)
      go_ret
      exact ⟨by rw [HR.out]; rfl, hB0⟩
    case true =>
      rw [s1] at HR
      cases s2 : (x.a == 0)
      case false =>
        rw [s2] at HR
        go_enter Try.func40, Try.ntmps40
        go_upto_region 1 with fail
        rw [← HE0.out]
        go_wp2_with (first
          | (go_at_call 28; with_reducible refine (WI.out _ _ _ _ b1).mono ?_; rintro e w' ⟨rfl, hw⟩; rw [hw])
          | (go_at_call 28; with_reducible refine (WI.out _ _ _ _ b3).mono ?_; rintro e w' ⟨rfl, hw⟩; rw [hw])
          | (go_at_call 28; with_reducible refine (WI.out _ _ _ _ b4).mono ?_; rintro e w' ⟨rfl, hw⟩; rw [hw])
          | (go_at_call 39; with_reducible refine (AI.out _ b2).mono ?_; rintro e w' ⟨rfl, hw⟩; rw [hw])
          | (go_at_call 52; refine NO.out.mono ?_; rintro e w1 ⟨rfl, hb1⟩)
          | (go_at_call 51; refine (IN.out _ hb1).mono ?_; rintro e w2 ⟨rfl, hb2⟩)
          | fail)
        go_ret
        exact ⟨by rw [HR.out]; rfl, hB0⟩
      case true =>
        rw [s2] at HR
        cases s3 : (x.b == 0)
        case false =>
          rw [s3] at HR
          go_enter Try.func40, Try.ntmps40
          go_upto_region 1 with fail
          rw [← HE0.out]
          go_wp2_with (first
            | (go_at_call 28; with_reducible refine (WI.out _ _ _ _ b1).mono ?_; rintro e w' ⟨rfl, hw⟩; rw [hw])
            | (go_at_call 28; with_reducible refine (WI.out _ _ _ _ b3).mono ?_; rintro e w' ⟨rfl, hw⟩; rw [hw])
            | (go_at_call 28; with_reducible refine (WI.out _ _ _ _ b4).mono ?_; rintro e w' ⟨rfl, hw⟩; rw [hw])
            | (go_at_call 39; with_reducible refine (AI.out _ b2).mono ?_; rintro e w' ⟨rfl, hw⟩; rw [hw])
            | (go_at_call 52; refine NO.out.mono ?_; rintro e w1 ⟨rfl, hb1⟩)
            | (go_at_call 51; refine (IN.out _ hb1).mono ?_; rintro e w2 ⟨rfl, hb2⟩)
            | fail)
          go_ret
          exact ⟨by rw [HR.out]; rfl, hB0⟩
        case true =>
          rw [s3] at HR
          cases s4 : (x.dest == 0)
          case false =>
            rw [s4] at HR
            go_enter Try.func40, Try.ntmps40
            go_upto_region 1 with fail
            rw [← HE0.out]
            go_wp2_with (first
              | (go_at_call 28; with_reducible refine (WI.out _ _ _ _ b1).mono ?_; rintro e w' ⟨rfl, hw⟩; rw [hw])
              | (go_at_call 28; with_reducible refine (WI.out _ _ _ _ b3).mono ?_; rintro e w' ⟨rfl, hw⟩; rw [hw])
              | (go_at_call 28; with_reducible refine (WI.out _ _ _ _ b4).mono ?_; rintro e w' ⟨rfl, hw⟩; rw [hw])
              | (go_at_call 39; with_reducible refine (AI.out _ b2).mono ?_; rintro e w' ⟨rfl, hw⟩; rw [hw])
              | (go_at_call 52; refine NO.out.mono ?_; rintro e w1 ⟨rfl, hb1⟩)
              | (go_at_call 51; refine (IN.out _ hb1).mono ?_; rintro e w2 ⟨rfl, hb2⟩)
              | fail)
            go_ret
            exact ⟨by rw [HR.out]; rfl, hB0⟩
          case true =>
            rw [s4] at HR
            go_enter Try.func40, Try.ntmps40
            go_upto_region 1 with fail
            rw [← HE0.out]
            go_wp2_with (first
              | (go_at_call 28; with_reducible refine (WI.out _ _ _ _ b1).mono ?_; rintro e w' ⟨rfl, hw⟩; rw [hw])
              | (go_at_call 28; with_reducible refine (WI.out _ _ _ _ b3).mono ?_; rintro e w' ⟨rfl, hw⟩; rw [hw])
              | (go_at_call 28; with_reducible refine (WI.out _ _ _ _ b4).mono ?_; rintro e w' ⟨rfl, hw⟩; rw [hw])
              | (go_at_call 39; with_reducible refine (AI.out _ b2).mono ?_; rintro e w' ⟨rfl, hw⟩; rw [hw])
              | (go_at_call 52; refine NO.out.mono ?_; rintro e w1 ⟨rfl, hb1⟩)
              | (go_at_call 51; refine (IN.out _ hb1).mono ?_; rintro e w2 ⟨rfl, hb2⟩)
              | fail)
            go_ret
            exact ⟨by rw [HR.out]; rfl, hB0⟩
  have hk : (x.kind == 18) = false := by simp [k18]
  have hkn : (x.kind != 18) = true := by simp [k18]
  cases b3 : inB x.dest 0 (r - 1)
  · have b4 := b1
    obtain rfl := HQ.out.2.2.2.1 b1 b2 k18 b3
    clear HQ
    go_enter Try.func40, Try.ntmps40
    go_upto_region 1 with fail
    rw [← HE0.out]
    go_wp2_with (first
      | (go_at_call 28; with_reducible refine (WI.out _ _ _ _ b1).mono ?_; rintro e w' ⟨rfl, hw⟩; rw [hw])
      | (go_at_call 28; with_reducible refine (WI.out _ _ _ _ b3).mono ?_; rintro e w' ⟨rfl, hw⟩; rw [hw])
      | (go_at_call 28; with_reducible refine (WI.out _ _ _ _ b4).mono ?_; rintro e w' ⟨rfl, hw⟩; rw [hw])
      | (go_at_call 39; with_reducible refine (AI.out _ b2).mono ?_; rintro e w' ⟨rfl, hw⟩; rw [hw])
      | (go_at_call 52; refine NO.out.mono ?_; rintro e w1 ⟨rfl, hb1⟩)
      | (go_at_call 51; refine (IN.out _ hb1).mono ?_; rintro e w2 ⟨rfl, hb2⟩)
      | fail)
    go_ret
    exact ⟨rfl, hB0⟩
  by_cases k6 : x.kind = 6
  · have hk6 : (x.kind == 6) = true := by simp [k6]
    have HR := Lib.hid (HQ.out.2.2.2.2.1 b1 b2 k18 b3 k6)
    clear HQ k18 k6
    cases b4 : inB x.a 1 16
    case false =>
      rw [b4] at HR
      go_enter Try.func40, Try.ntmps40
      go_upto_region 1 with fail
      rw [← HE0.out]
      go_wp2_with (first
        | (go_at_call 28; with_reducible refine (WI.out _ _ _ _ b1).mono ?_; rintro e w' ⟨rfl, hw⟩; rw [hw])
        | (go_at_call 28; with_reducible refine (WI.out _ _ _ _ b3).mono ?_; rintro e w' ⟨rfl, hw⟩; rw [hw])
        | (go_at_call 28; with_reducible refine (WI.out _ _ _ _ b4).mono ?_; rintro e w' ⟨rfl, hw⟩; rw [hw])
        | (go_at_call 39; with_reducible refine (AI.out _ b2).mono ?_; rintro e w' ⟨rfl, hw⟩; rw [hw])
        | (go_at_call 52; refine NO.out.mono ?_; rintro e w1 ⟨rfl, hb1⟩)
        | (go_at_call 51; refine (IN.out _ hb1).mono ?_; rintro e w2 ⟨rfl, hb2⟩)
        | fail)
      go_ret
      exact ⟨by rw [HR.out]; rfl, hB0⟩
    case true =>
      rw [b4] at HR
      cases s3 : (x.b == 0)
      case false =>
        rw [s3] at HR
        go_enter Try.func40, Try.ntmps40
        go_upto_region 1 with fail
        rw [← HE0.out]
        go_wp2_with (first
          | (go_at_call 28; with_reducible refine (WI.out _ _ _ _ b1).mono ?_; rintro e w' ⟨rfl, hw⟩; rw [hw])
          | (go_at_call 28; with_reducible refine (WI.out _ _ _ _ b3).mono ?_; rintro e w' ⟨rfl, hw⟩; rw [hw])
          | (go_at_call 28; with_reducible refine (WI.out _ _ _ _ b4).mono ?_; rintro e w' ⟨rfl, hw⟩; rw [hw])
          | (go_at_call 39; with_reducible refine (AI.out _ b2).mono ?_; rintro e w' ⟨rfl, hw⟩; rw [hw])
          | (go_at_call 52; refine NO.out.mono ?_; rintro e w1 ⟨rfl, hb1⟩)
          | (go_at_call 51; refine (IN.out _ hb1).mono ?_; rintro e w2 ⟨rfl, hb2⟩)
          | fail)
        go_ret
        exact ⟨by rw [HR.out]; rfl, hB0⟩
      case true =>
        rw [s3] at HR
        cases s1 : ((x.src.length : Int) == 0)
        case false =>
          rw [s1] at HR
          go_enter Try.func40, Try.ntmps40
          go_upto_region 1 with fail
          rw [← HE0.out]
          go_wp2_with (first
            | (go_at_call 28; with_reducible refine (WI.out _ _ _ _ b1).mono ?_; rintro e w' ⟨rfl, hw⟩; rw [hw])
            | (go_at_call 28; with_reducible refine (WI.out _ _ _ _ b3).mono ?_; rintro e w' ⟨rfl, hw⟩; rw [hw])
            | (go_at_call 28; with_reducible refine (WI.out _ _ _ _ b4).mono ?_; rintro e w' ⟨rfl, hw⟩; rw [hw])
            | (go_at_call 39; with_reducible refine (AI.out _ b2).mono ?_; rintro e w' ⟨rfl, hw⟩; rw [hw])
            | (go_at_call 52; refine NO.out.mono ?_; rintro e w1 ⟨rfl, hb1⟩)
            | (go_at_call 51; refine (IN.out _ hb1).mono ?_; rintro e w2 ⟨rfl, hb2⟩)
            | fail)
          go_ret
          exact ⟨by rw [HR.out]; rfl, hB0⟩
        case true =>
          rw [s1] at HR
          go_enter Try.func40, Try.ntmps40
          go_upto_region 1 with fail
          rw [← HE0.out]
          go_wp2_with (first
            | (go_at_call 28; with_reducible refine (WI.out _ _ _ _ b1).mono ?_; rintro e w' ⟨rfl, hw⟩; rw [hw])
            | (go_at_call 28; with_reducible refine (WI.out _ _ _ _ b3).mono ?_; rintro e w' ⟨rfl, hw⟩; rw [hw])
            | (go_at_call 28; with_reducible refine (WI.out _ _ _ _ b4).mono ?_; rintro e w' ⟨rfl, hw⟩; rw [hw])
            | (go_at_call 39; with_reducible refine (AI.out _ b2).mono ?_; rintro e w' ⟨rfl, hw⟩; rw [hw])
            | (go_at_call 52; refine NO.out.mono ?_; rintro e w1 ⟨rfl, hb1⟩)
            | (go_at_call 51; refine (IN.out _ hb1).mono ?_; rintro e w2 ⟨rfl, hb2⟩)
            | fail)
          go_ret
          exact ⟨by rw [HR.out]; rfl, hB0⟩
  have hk6 : (x.kind == 6) = false := by simp [k6]
  have b4 := b1
  have HR := Lib.hid (HQ.out.2.2.2.2.2 b1 b2 k18 b3 k6)
  clear HQ k18 k6
  go_enter Try.func40, Try.ntmps40
  go_upto_region 1 with fail
  rw [← HE0.out]
  go_wp2_with (first
    | (go_at_call 28; with_reducible refine (WI.out _ _ _ _ b1).mono ?_; rintro e w' ⟨rfl, hw⟩; rw [hw])
    | (go_at_call 28; with_reducible refine (WI.out _ _ _ _ b3).mono ?_; rintro e w' ⟨rfl, hw⟩; rw [hw])
    | (go_at_call 28; with_reducible refine (WI.out _ _ _ _ b4).mono ?_; rintro e w' ⟨rfl, hw⟩; rw [hw])
    | (go_at_call 39; with_reducible refine (AI.out _ b2).mono ?_; rintro e w' ⟨rfl, hw⟩; rw [hw])
    | (go_at_call 52; refine NO.out.mono ?_; rintro e w1 ⟨rfl, hb1⟩)
    | (go_at_call 51; refine (IN.out _ hb1).mono ?_; rintro e w2 ⟨rfl, hb2⟩)
    | fail)
  go_ret
  exact ⟨by rw [HR.out]; rfl, hB0.trans ((hb1.trans (hb2.mono hb1.size)).mono hB0.size)⟩
set_option maxHeartbeats 2000000 in
set_option maxRecDepth 100000 in
theorem l11Node_any {b o : Nat} {x : InstrD} (w : World) (h : PInstr w b o x) :
    Calls Try.prog 47 #[.pointer (some ⟨b, o, none⟩)] w fun e w' => (∃ q d, e = .returned (.agg #[.int .i64 x.kind, .int .i64 x.a, .int .i64 x.b, .slice q x.src.length d]) ∧ RdI w q x.src) ∧ Below w.heap.size w w' := by
  have hlt := h.lt
  obtain ⟨c0, c1, c2, c3, ⟨q, d, c4, hr⟩, c5⟩ := h
  obtain ⟨E, hE⟩ : ∃ E, E = w.alloc (.cells #[.int .i64 0, .int .i64 0, .int .i64 0, .slice none 0 0] 71) := ⟨_, rfl⟩
  have hB : Below w.heap.size w E := by rw [hE]; exact (Below.refl _ _).alloc (Nat.le_refl _) _
  have bz : Box E w.heap.size [.int .i64 0, .int .i64 0, .int .i64 0, .slice none 0 0] 71 := by rw [hE]; exact Box.newAt w [.int .i64 0, .int .i64 0, .int .i64 0, .slice none 0 0] _ rfl
  have z0 := (hB.cell (p := ⟨b, o, none⟩) hlt).trans c0
  have z1 := (hB.cell (p := ⟨b, o + 1, none⟩) hlt).trans c1
  have z2 := (hB.cell (p := ⟨b, o + 2, none⟩) hlt).trans c2
  have z4 := (hB.cell (p := ⟨b, o + 4, none⟩) hlt).trans c4
  have hne : b ≠ w.heap.size := by omega
  have u0 := bz.cell 0 rfl
  have u1 := bz.cell 1 rfl
  have u2 := bz.cell 2 rfl
  have u3 := bz.cell 3 rfl
  have f0 := bz.frozen 0
  have f1 := bz.frozen 1
  have f2 := bz.frozen 2
  have f3 := bz.frozen 3
  have hzl := bz.lt
  have HE := Lib.hid hE
  have HBZ := Lib.hid bz
  clear hE c0 c1 c2 c3 c4 c5
  go_enter Try.func47, Try.ntmps47
  go_upto_region 1 with fail
  rw [← HE.out]
  refine wp_region_still_tail 17 (by kernel_rfl) (by kernel_rfl) ?_
  simp only [List.take_succ_cons, List.take_zero, List.drop_succ_cons, List.drop_zero]
  change wpStill _ _ (World.drew _) _ _ _
  repeat (first | still_step | (refine wpStill_step (fun K hK => ?_); go_simp; refine ⟨_, (by fail), hK _ ?_⟩; clear hK K))
  refine wpStill_nil ?_
  change wpList _ _ _ _ _ (World.drew _)
  obtain ⟨W, hW⟩ : ∃ W, W = ((((E.setCell ⟨w.heap.size, 0, none⟩ (.int .i64 x.kind)).setCell ⟨w.heap.size, 1, none⟩ (.int .i64 x.a)).setCell ⟨w.heap.size, 2, none⟩ (.int .i64 x.b)).setCell ⟨w.heap.size, 3, none⟩ (.slice q x.src.length d)).drew := ⟨_, rfl⟩
  have hbW : Below w.heap.size w W := by
    rw [hW]
    have hh := (((hB.setCell (p := ⟨w.heap.size, 0, none⟩) (Nat.le_refl _) (.int .i64 x.kind)).setCell (p := ⟨w.heap.size, 1, none⟩) (Nat.le_refl _) (.int .i64 x.a)).setCell (p := ⟨w.heap.size, 2, none⟩) (Nat.le_refl _) (.int .i64 x.b)).setCell (p := ⟨w.heap.size, 3, none⟩) (Nat.le_refl _) (.slice q x.src.length d)
    exact ⟨hh.os, hh.tape, hh.output, hh.size, hh.block⟩
  have bW : Box W w.heap.size [.int .i64 x.kind, .int .i64 x.a, .int .i64 x.b, .slice q x.src.length d] 71 := by
    rw [hW]
    have hh := (((HBZ.out.set 0 (.int .i64 x.kind)).set 1 (.int .i64 x.a)).set 2 (.int .i64 x.b)).set 3 (.slice q x.src.length d)
    exact hh
  have k0 := bW.cell 0 rfl
  have k1 := bW.cell 1 rfl
  have k2 := bW.cell 2 rfl
  have k3 := bW.cell 3 rfl
  have HW := Lib.hid hW
  clear hW u0 u1 u2 u3 z0 z1 z2 z4
  have v0 := HBZ.out.cell 0 rfl
  have v1 := HBZ.out.cell 1 rfl
  have v2 := HBZ.out.cell 2 rfl
  have v3 := HBZ.out.cell 3 rfl
  go_wp2_with fail
  rw [← HW.out]
  refine bodyPost_ret (v := .agg #[.int .i64 x.kind, .int .i64 x.a, .int .i64 x.b, .slice q x.src.length d]) (by simp [results, Try.results47, go_sem, *]) rfl ?_
  exact ⟨⟨q, d, rfl, hr⟩, hbW⟩
end Go.Proofs.Ytabfdnkomhjlkaa
