/-
  Several texts in one: RnR, RnL, RnV, ChainM, RnC, RnK, RnO, RnP, RnQ, RnT.
-/
import Derived.Test.YtcfhcmgmkhfjjaaGreatPk12
import Derived.Test.YtcfhcmgmkhfjjaaGreatPk6
import Derived.Test.YtcfhcmgmkhfjjaaGreatPk1
import Derived.Deep.RegionHeld3
import Derived.Test.YtcfhcmgmkhfjjaaGreatPk4
import Derived.Test.YtcfhcmgmkhfjjaaGreatPk7
import Derived.Test.YtcfhcmgmkhfjjaaGreatPk11
namespace Go.Proofs.YtcfhcmgmkhfjjaaGreat
open Go.ChangeShapes Go.WideShapes Go.ChangeAt Go.RowKit Go.Sort
set_option linter.unusedVariables false
set_option linter.unusedSimpArgs false

set_option maxHeartbeats 1600000 in
theorem l08Render_any {gp n : Nat} {x : PatchD} {ins : List (List Int)} {pi : Option Addr} {ci : Nat} (w : World) (h : PPatch w gp x) (hok : okB x = true) (hin : RdII w pi ins) (hi : InsOk x ins) (hn : n ≤ 4000) :
    Calls Tryz.prog 26 #[.pointer (some ⟨gp, 0, none⟩), .slice pi ins.length ci, .int .i64 (n : Int)] w fun e w' => ∃ u L, e = .returned u ∧ OwnII w.heap.size w' u (renL x ins n) L ∧ Below w.heap.size w w' := by
  have hf := (okR_len hok).1
  have ST := Lib.hid (l08Start_any w h (fun nd hnd => by
    have h1 := (formed_iff.1 hf).2.2.2.2.1 _ hnd
    unfold ndB at h1
    simp only [Bool.and_eq_true] at h1
    exact startOk_of h1.1.1) (okR_len hok).2.2)
  have HP := Lib.hid h
  have HOK := Lib.hid hok
  have HI := Lib.hid hi
  have HIN := Lib.hid hin
  clear h hok hi hin hf
  go_enter Tryz.func26, Tryz.ntmps26
  go_wp2_with fail
  refine ST.out.mono ?_
  rintro e w1 ⟨u, L, rfl, ⟨u0, L0, rfl, rfl, o⟩, hb1⟩
  obtain ⟨up, uc, rfl, -⟩ := o.rd
  have hl : (x.nodes.map startL).length = x.nodes.length := by simp
  have o : OwnII w.heap.size w1 (.slice up x.nodes.length uc) (x.nodes.map startL) L0 := by rw [← hl]; exact o
  rw [hl]
  clear hl
  obtain ⟨F, hF⟩ : ∃ F, F = w1.alloc (.cells #[.slice up x.nodes.length uc] 83) := ⟨_, rfl⟩
  obtain ⟨g, hg⟩ : ∃ g, g = w1.heap.size := ⟨_, rfl⟩
  have hbF : Below w1.heap.size w1 F := by rw [hF]; exact (Below.refl _ _).alloc (Nat.le_refl _) _
  have bs : Box F g [.slice up x.nodes.length uc] 83 := by rw [hF]; exact Box.newAt w1 _ _ hg
  have o2 := o.below hbF
  have BK : Hid (Calls Tryz.prog 46 #[.pointer (some ⟨gp, 0, none⟩), .pointer (some ⟨g, 0, none⟩), .slice pi ins.length ci, .int .i64 0, .int .i64 (n : Int)] F fun e w' => ∃ u L, e = .returned u ∧ OwnII F.heap.size w' u (renL x ins n) L ∧ Below w1.heap.size w1 w') :=
    l08Block_any (Bs := w.heap.size) hbF (by omega) (HP.out.below hb1) HOK.out (HIN.out.below hb1) HI.out bs o2 hn
  have HF := Lib.hid hF
  have HG := Lib.hid hg
  have hz := hb1.size
  have hz2 := hbF.size
  clear hF hg o o2 bs
  go_upto_region 2 with fail
  rw [← HF.out, ← HG.out]
  go_wp2_with fail
  refine BK.out.mono ?_
  rintro e w2 ⟨u2, L2, rfl, ho, hb2⟩
  obtain ⟨q, c, rfl, -⟩ := ho.rd
  go_wp2_with fail
  go_ret
  exact ⟨_, L2, rfl, ho.mono (by omega), hb1.trans (hb2.mono hz)⟩
/-! ### spec.Render -/
def sigsB (x : PatchD) (ins : List (List Int)) : Bool := ins.all (fun a => decide (a.length ≤ 4000) && a.all isSmp) && decide ((ins.length : Int) = x.inputs)
def renCode (x : PatchD) (ins : List (List Int)) (n : Int) : Int := if okB x then (if sigsB x ins && inB n 0 4000 then 0 else 2) else 1
def renRes (x : PatchD) (ins : List (List Int)) (n : Int) : List (List Int) := if renCode x ins n = 0 then renL x ins n.toNat else []
theorem sigsB_ok {x : PatchD} {ins : List (List Int)} (h : sigsB x ins = true) : InsOk x ins := by
  unfold sigsB at h
  simp only [Bool.and_eq_true, List.all_eq_true, decide_eq_true_eq] at h
  exact ⟨h.2, fun a ha => List.all_eq_true.2 (h.1 a ha).2⟩
theorem renCode_ok {x : PatchD} {ins : List (List Int)} {n : Int} (h : renCode x ins n = 0) : okB x = true ∧ sigsB x ins = true ∧ 0 ≤ n ∧ n ≤ 4000 := by
  unfold renCode at h
  split at h
  · rename_i h1
    split at h
    · rename_i h2
      rw [Bool.and_eq_true, inB_iff] at h2
      exact ⟨h1, h2.1, h2.2⟩
    · omega
  · omega
set_option maxHeartbeats 1600000 in
theorem l08Signals_any {gp : Nat} {x : PatchD} {ins : List (List Int)} {pi : Option Addr} {ci : Nat} (w : World) (h : PPatch w gp x) (hin : RdII w pi ins) :
    Calls Tryz.prog 24 #[.pointer (some ⟨gp, 0, none⟩), .slice pi ins.length ci] w fun e w' => e = .returned (.bool (sigsB x ins)) ∧ Below w.heap.size w w' := by
  obtain ⟨p1, c1, p2, c2, p3, c3, bx, -, -, -⟩ := h
  have hil := hin.len
  unfold maxLen at hil
  have HS : Hid (∀ k, k ≤ ins.length → (∀ j, j < k → ∀ a, ins[j]? = some a → (decide (a.length ≤ 4000) && a.all isSmp) = true) → ∀ b, (∀ a, ins[k]? = some a → (decide (a.length ≤ 4000) && a.all isSmp) = b) → (k < ins.length → b = false → sigsB x ins = false) ∧ (k = ins.length → sigsB x ins = decide ((ins.length : Int) = x.inputs))) := fun k hk hall b hb => by
    refine ⟨fun hlt hbf => ?_, fun he => ?_⟩
    · unfold sigsB
      rw [Bool.and_eq_false_iff]
      left
      rw [List.all_eq_false]
      refine ⟨ins[k], List.getElem_mem hlt, ?_⟩
      rw [hb _ (List.getElem?_eq_getElem hlt), hbf]; simp
    · unfold sigsB
      have : ins.all (fun a => decide (a.length ≤ 4000) && a.all isSmp) = true := List.all_eq_true.2 fun a ha => by
        obtain ⟨j, hj, rfl⟩ := List.mem_iff_getElem.1 ha
        exact hall j (by omega) _ (List.getElem?_eq_getElem hj)
      rw [this, Bool.true_and]
  generalize sigsB x ins = R at HS ⊢
  go_enter Tryz.func24, Tryz.ntmps24
  go_wp2_with fail
  go_loopw [5] (fun i wr => ∃ k : Nat, k ≤ ins.length ∧ i = .int .i64 (k : Int) ∧ Hid (∀ j, j < k → ∀ a, ins[j]? = some a → (decide (a.length ≤ 4000) && a.all isSmp) = true) ∧ Below w.heap.size w wr) (fun i _ => ins.length - (intOf i).toNat)
  case atStart => exact ⟨0, Nat.zero_le _, rfl, fun j hj => by omega, Below.refl _ _⟩
  case round =>
    obtain ⟨k, hk, rfl, HA, hbel⟩ := hrel
    obtain ⟨wi, rfl⟩ : ∃ W : World, W = wr := ⟨_, rfl⟩
    have hsz := hbel.size
    have z0 := (bx.below hbel).cell 0 rfl
    by_cases hlt : k < ins.length
    · obtain ⟨b, o, q, c, rfl, hb, hrow, hrr⟩ := (hin.below hbel).at0 hlt
      have hg : ins.getD k [] = ins[k] := by rw [List.getD_eq_getElem?_getD, List.getElem?_eq_getElem hlt]; rfl
      have hg2 : ins[k]? = some (ins.getD k []) := by rw [hg]; exact List.getElem?_eq_getElem hlt
      have LX := Lib.hid (l03Ok_any (c := c) wi hrr)
      have HS1 := Lib.hid (fun b' (hb' : (decide ((ins.getD k []).length ≤ 4000) && (ins.getD k []).all isSmp) = b') => (HS.out k hk HA.out b' (fun a ha => by rw [hg2] at ha; obtain rfl := Option.some.inj ha; exact hb')).1 hlt)
      have HA2 : Hid ((decide ((ins.getD k []).length ≤ 4000) && (ins.getD k []).all isSmp) = true → ∀ j, j < k + 1 → ∀ a, ins[j]? = some a → (decide (a.length ≤ 4000) && a.all isSmp) = true) := fun ht j hj a ha => by
        by_cases hjk : j = k
        · subst hjk
          rw [hg2] at ha
          obtain rfl := Option.some.inj ha
          exact ht
        · exact HA.out j (by omega) a ha
      clear hg hg2
      generalize ins.getD k [] = row at hrow hrr LX HS1 HA2
      generalize (decide (row.length ≤ 4000) && row.all isSmp) = bb at LX HS1 HA2
      cases bb
      · obtain rfl : R = false := HS1.out false rfl rfl
        go_wp2_with (first | (go_at_call 44; refine LX.out.mono ?_; rintro e w2 ⟨rfl, hd⟩) | fail)
        have hd2 : Below wi.heap.size wi w2 := by first | exact hd | exact hd.below _ | (obtain rfl := hd; exact Below.refl _ _)
        go_ret
        exact ⟨rfl, hbel.trans (hd2.mono hsz)⟩
      · have HA3 := Lib.hid (HA2.out rfl)
        go_wp2_with (first | (go_at_call 44; refine LX.out.mono ?_; rintro e w2 ⟨rfl, hd⟩) | fail)
        have hd2 : Below wi.heap.size wi w2 := by first | exact hd | exact hd.below _ | (obtain rfl := hd; exact Below.refl _ _)
        go_roundw
        case rel => exact ⟨k + 1, by omega, by go_num, HA3, hbel.trans (hd2.mono hsz)⟩
        case measure => simp [intOf] <;> omega
    · obtain rfl : k = ins.length := by omega
      have hR := (HS.out _ (Nat.le_refl _) HA.out false (fun a ha => by rw [List.getElem?_eq_none (Nat.le_refl _)] at ha; cases ha)).2 rfl
      have HRR := Lib.hid hR
      clear hR
      go_wp2_with fail
      go_ret
      have hq : ((ins.length : Int) == x.inputs) = decide ((ins.length : Int) = x.inputs) := by rw [Bool.eq_iff_iff, beq_iff_eq, decide_eq_true_iff]
      exact ⟨by rw [HRR.out, ← hq]; rfl, hbel⟩
/-- lists of lists and a code, as results -/
def RetII (w : World) (xss : List (List Int)) (code : Int) (e : Ending) (w' : World) : Prop := ∃ u L, e = .returned (.tuple #[u, .int .i64 code]) ∧ OwnII w.heap.size w' u xss L ∧ Below w.heap.size w w'
set_option maxHeartbeats 1600000 in
theorem specRender_any {v : Value} {x : PatchD} {ins : List (List Int)} {pi : Option Addr} {ci : Nat} (n : Int) (w : World) (h : VPatch w v x) (hin : RdII w pi ins) :
    Calls Tryz.prog 11 #[v, .slice pi ins.length ci, .int .i64 n] w (RetII w (renRes x ins n) (renCode x ins n)) := by
  obtain ⟨p1, c1, p2, c2, p3, c3, rfl, hp⟩ := PPatch.of h
  obtain ⟨g, hg⟩ : ∃ g, g = w.heap.size := ⟨_, rfl⟩
  obtain ⟨E, hE⟩ : ∃ E, E = w.alloc (.cells #[.int .i64 x.inputs, .slice p1 x.tables.length c1, .slice p2 x.nodes.length c2, .slice p3 x.outputs.length c3] 28) := ⟨_, rfl⟩
  have hB : Below w.heap.size w E := by rw [hE]; exact (Below.refl _ _).alloc (Nat.le_refl _) _
  have hpE : PPatch E g x := by rw [hg, hE]; exact hp
  have OK := Lib.hid (l07Ok_any E hpE)
  have SG := Lib.hid (fun W (hW : Below E.heap.size E W) => l08Signals_any (ci := ci) W (hpE.below hW) ((hin.below hB).below hW))
  have IN := Lib.hid (fun W => l00In_any n 0 4000 W)
  have RD : Hid (renCode x ins n = 0 → ∀ W, Below E.heap.size E W → Calls Tryz.prog 26 #[.pointer (some ⟨g, 0, none⟩), .slice pi ins.length ci, .int .i64 n] W fun e w' => ∃ u L, e = .returned u ∧ OwnII W.heap.size w' u (renL x ins n.toNat) L ∧ Below W.heap.size W w') := fun hc W hW => by
    obtain ⟨k1, k2, k3, k4⟩ := renCode_ok hc
    have := l08Render_any (ci := ci) (n := n.toNat) W (hpE.below hW) k1 ((hin.below hB).below hW) (sigsB_ok k2) (by omega)
    rwa [show ((n.toNat : Nat) : Int) = n by omega] at this
  have HC : Hid (∀ b1 b2 b3, okB x = b1 → sigsB x ins = b2 → inB n 0 4000 = b3 → renCode x ins n = if b1 then (if b2 && b3 then 0 else 2) else 1) := fun b1 b2 b3 e1 e2 e3 => by unfold renCode; rw [e1, e2, e3]
  have HRS : Hid (renRes x ins n = if renCode x ins n = 0 then renL x ins n.toNat else []) := rfl
  generalize renRes x ins n = R at HRS ⊢
  generalize renCode x ins n = C at HRS HC RD ⊢
  generalize renL x ins n.toNat = RL at HRS RD
  have HE := Lib.hid hE
  have HG := Lib.hid hg
  clear hE hg h hp hpE
  generalize okB x = b1 at OK HC
  generalize sigsB x ins = b2 at SG HC
  generalize inB n 0 4000 = b3 at IN HC
  have HC1 := Lib.hid (HC.out b1 b2 b3 rfl rfl rfl)
  clear HC
  go_enter Tryz.func11, Tryz.ntmps11
  go_upto_region 1 with fail
  rw [← HE.out, ← HG.out]
  go_wp2_with fail
  refine OK.out.mono ?_
  rintro e W1 ⟨rfl, hb1⟩
  cases b1
  · obtain rfl : C = 1 := HC1.out
    obtain rfl : R = [] := by rw [HRS.out, if_neg (by omega)]
    clear HC1 HRS RD
    go_wp2_with fail
    refine bodyPost_ret (v := .tuple #[.slice none 0 0, .int .i64 1]) (by simp [results, Tryz.results11, go_sem, *]) rfl ?_
    exact ⟨_, [], rfl, OwnII.nil0 _ _, hB.trans (hb1.mono hB.size)⟩
  go_wp2_with fail
  refine (SG.out W1 hb1).mono ?_
  rintro e W2 ⟨rfl, hb2⟩
  have hb12 := hb1.trans (hb2.mono hb1.size)
  cases b2
  · obtain rfl : C = 2 := HC1.out
    obtain rfl : R = [] := by rw [HRS.out, if_neg (by omega)]
    clear HC1 HRS RD
    go_wp2_with fail
    refine bodyPost_ret (v := .tuple #[.slice none 0 0, .int .i64 2]) (by simp [results, Tryz.results11, go_sem, *]) rfl ?_
    exact ⟨_, [], rfl, OwnII.nil0 _ _, hB.trans (hb12.mono hB.size)⟩
  cases b3
  · obtain rfl : C = 2 := HC1.out
    obtain rfl : R = [] := by rw [HRS.out, if_neg (by omega)]
    clear HC1 HRS RD
    go_wp2_with (first | (go_at_call 25; refine (IN.out _).mono ?_; rintro e w' ⟨rfl, rfl⟩) | fail)
    refine bodyPost_ret (v := .tuple #[.slice none 0 0, .int .i64 2]) (by simp [results, Tryz.results11, go_sem, *]) rfl ?_
    exact ⟨_, [], rfl, OwnII.nil0 _ _, hB.trans (hb12.mono hB.size)⟩
  · obtain rfl : C = 0 := HC1.out
    obtain rfl : R = RL := by rw [HRS.out, if_pos rfl]
    have RD1 := Lib.hid (RD.out rfl)
    clear HC1 HRS RD
    go_wp2_with (first | (go_at_call 25; refine (IN.out _).mono ?_; rintro e w' ⟨rfl, rfl⟩) | fail)
    refine (RD1.out W2 hb12).mono ?_
    rintro e W3 ⟨u, L, rfl, ho, hb3⟩
    obtain ⟨q, c, rfl, -⟩ := ho.rd
    go_wp2_with fail
    refine bodyPost_ret (v := .tuple #[.slice q R.length c, .int .i64 0]) (by simp [results, Tryz.results11, go_sem, *]) rfl ?_
    exact ⟨_, L, rfl, ho.mono (Nat.le_trans hB.size hb12.size), hB.trans ((hb12.trans (hb3.mono hb12.size)).mono hB.size)⟩
end Go.Proofs.YtcfhcmgmkhfjjaaGreat

namespace Go.Proofs.YtcfhcmgmkhfjjaaGreat
open Go.ChangeShapes Go.WideShapes Go.ChangeAt Go.RowKit Go.Sort
set_option linter.unusedVariables false
set_option linter.unusedSimpArgs false

theorem b10Long_any (p : Option Addr) (n c : Nat) (w : World) (hn : n ≤ maxLen) :
    Calls Tryz.prog 4 #[.slice p n c] w fun e w' => e = .returned (.bool (decide (1048576 < (n : Int)))) ∧ w' = w := by
  unfold maxLen at hn
  go_enter Tryz.func4, Tryz.ntmps4
  go_wp2
  go_ret
  exact ⟨rfl, rfl⟩
theorem b10At_any {v : Value} {bs : List Int} (k : Nat) (n : Int) (w : World) (h : VB w v bs) (hl : bs.length ≤ 1048576) (hk : k ≤ 100000) (hn : 1 ≤ n) (hn2 : n ≤ 100000) :
    Calls Tryz.prog 10 #[v, .int .i64 (k : Int), .int .i64 n] w fun e w' => ∃ r, 0 ≤ r ∧ r < n ∧ e = .returned (.int .i64 r) ∧ w = w' := by
  obtain ⟨p, c, rfl, hr⟩ := h
  by_cases h0 : n ≤ 1
  · go_enter Tryz.func10, Tryz.ntmps10
    go_wp2_with fail
    go_ret
    exact ⟨0, by omega, by omega, rfl, rfl⟩
  by_cases h1 : k < bs.length
  · obtain ⟨b, o, rfl, hb, hc⟩ := hr.pos h1
    have hk0 := hc k h1
    have hx := hr.bytes _ (List.getElem_mem h1)
    generalize bs[k] = x at hk0 hx
    have q1 : 0 ≤ x := hx.1
    have q2 : x ≤ 255 := hx.2
    clear hx hc
    have r1 : 0 ≤ x % n := Int.emod_nonneg _ (by omega)
    have r2 : x % n < n := Int.emod_lt_of_pos _ (by omega)
    go_enter Tryz.func10, Tryz.ntmps10
    go_wp2_with fail
    go_ret
    exact ⟨_, r1, r2, rfl, rfl⟩
  · have r1 : 0 ≤ ((k : Int) * 37 + 11) % n := Int.emod_nonneg _ (by omega)
    have r2 : ((k : Int) * 37 + 11) % n < n := Int.emod_lt_of_pos _ (by omega)
    go_enter Tryz.func10, Tryz.ntmps10
    go_wp2_with fail
    go_ret
    exact ⟨_, r1, r2, rfl, rfl⟩
set_option maxHeartbeats 2000000 in
theorem b10Nums_true {p q : Option Addr} {c d : Nat} {xs : List Int} (w : World) (h : RdI w p xs) (h' : RdI w q xs) (hl : xs.length ≤ 1048576) :
    Calls Tryz.prog 27 #[.slice p xs.length c, .slice q xs.length d] w fun e w' => e = .returned (.bool true) ∧ Below w.heap.size w w' := by
  go_enter Tryz.func27, Tryz.ntmps27
  go_wp2_with fail
  go_loopw [5] (fun i wr => ∃ k : Nat, k ≤ xs.length ∧ i = .int .i64 (k : Int) ∧ Drawn w wr) (fun i _ => xs.length - (intOf i).toNat)
  case atStart => exact ⟨0, Nat.zero_le _, rfl, Drawn.refl _⟩
  case round =>
    obtain ⟨k, hk, rfl, hdr⟩ := hrel
    by_cases hlt : k < xs.length
    · obtain ⟨b, o, rfl, hb, hc⟩ := (hdr.rdI h).pos hlt
      obtain ⟨b', o', rfl, hb', hc'⟩ := (hdr.rdI h').pos hlt
      have z1 := hc k hlt
      have z2 := hc' k hlt
      generalize xs[k] = x at z1 z2
      clear hc hc'
      go_wp2_with fail
      go_quiet (fail)
      go_wp2_with fail
      go_roundw
      case rel => exact ⟨k + 1, by omega, by go_num, hdr.on _⟩
      case measure => simp [intOf] <;> omega
    · obtain rfl : k = xs.length := by omega
      go_wp2_with fail
      go_ret
      obtain ⟨m, rfl⟩ := hdr
      exact ⟨rfl, below_drewN (Below.refl _ _) m⟩
set_option maxHeartbeats 2000000 in
theorem b10Lists_true {p q : Option Addr} {c d : Nat} {xss : List (List Int)} (w : World) (h : RdII w p xss) (h' : RdII w q xss) (hl : xss.length ≤ 1048576) (hr : ∀ a ∈ xss, a.length ≤ 1048576) :
    Calls Tryz.prog 12 #[.slice p xss.length c, .slice q xss.length d] w fun e w' => e = .returned (.bool true) ∧ Below w.heap.size w w' := by
  go_enter Tryz.func12, Tryz.ntmps12
  go_wp2_with fail
  go_loopw [5] (fun i wr => ∃ k : Nat, k ≤ xss.length ∧ i = .int .i64 (k : Int) ∧ Below w.heap.size w wr) (fun i _ => xss.length - (intOf i).toNat)
  case atStart => exact ⟨0, Nat.zero_le _, rfl, Below.refl _ _⟩
  case round =>
    obtain ⟨k, hk, rfl, hbel⟩ := hrel
    obtain ⟨wi, rfl⟩ : ∃ W : World, W = wr := ⟨_, rfl⟩
    have hsz := hbel.size
    by_cases hlt : k < xss.length
    · obtain ⟨b, o, q1, c1, rfl, hb, hrow, hrr⟩ := (h.below hbel).at0 hlt
      obtain ⟨b', o', q2, c2, rfl, hb', hrow', hrr'⟩ := (h'.below hbel).at0 hlt
      have hg : xss.getD k [] = xss[k] := by rw [List.getD_eq_getElem?_getD, List.getElem?_eq_getElem hlt]; rfl
      have hra : (xss.getD k []).length ≤ 1048576 := by rw [hg]; exact hr _ (List.getElem_mem hlt)
      clear hg
      generalize xss.getD k [] = row at hrow hrow' hrr hrr' hra
      have KN : Hid (∀ W, Below wi.heap.size wi W → Calls Tryz.prog 27 #[.slice q1 row.length c1, .slice q2 row.length c2] W fun e w' => e = .returned (.bool true) ∧ Below W.heap.size W w') := fun W hW => b10Nums_true W (hrr.below hW) (hrr'.below hW) hra
      have CK : Hid (∀ W, Below wi.heap.size wi W → W.cell? ⟨b, o + k, none⟩ = some (.slice q1 row.length c1) ∧ W.cell? ⟨b', o' + k, none⟩ = some (.slice q2 row.length c2)) := fun W hW => ⟨(hW.cell (p := ⟨b, o + k, none⟩) hb).trans hrow, (hW.cell (p := ⟨b', o' + k, none⟩) hb').trans hrow'⟩
      have hcur := belowDrew wi
      clear hrr hrr' hra
      go_wp2_with fail
      go_region_held3 (fun W => W.cell? ⟨b, o + k, none⟩ = some (.slice q1 row.length c1) ∧ W.cell? ⟨b', o' + k, none⟩ = some (.slice q2 row.length c2)) (first | go_keep | exact CK.out _ (by (repeat (first | exact Below.refl _ _ | assumption | refine Below.setCell ?_ (by first | exact Nat.le_refl _ | omega | (simp; done) | (simp; omega)) _ | refine Below.alloc ?_ (by first | exact Nat.le_refl _ | omega | (simp; done) | (simp; omega)) _ | refine below_drewN ?_ _)))) ((first | (go_at_call 27; refine (KN.out _ hcur).mono ?_; rintro e W2 ⟨rfl, hb9⟩; have hcur := hcur.trans (hb9.mono hcur.size)) | fail))
      all_goals
        go_wp2_with fail
        go_roundw
        case rel => exact ⟨k + 1, by omega, by go_num, hbel.trans (hcur.mono hsz)⟩
        case measure => simp [intOf] <;> omega
    · obtain rfl : k = xss.length := by omega
      go_wp2_with fail
      go_ret
      exact ⟨rfl, hbel⟩
end Go.Proofs.YtcfhcmgmkhfjjaaGreat

namespace Go.Proofs.YtcfhcmgmkhfjjaaGreat
open Go.ChangeShapes Go.WideShapes Go.ChangeAt Go.RowKit Go.Sort
set_option linter.unusedVariables false

/-- rows of samples, all of one length -/
def RowsS (n : Nat) (xss : List (List Int)) : Prop := ∀ a ∈ xss, a.length = n ∧ a.all isSmp = true
theorem RowsS.snoc {n : Nat} {xss : List (List Int)} (h : RowsS n xss) {a : List Int} (h1 : a.length = n) (h2 : a.all isSmp = true) : RowsS n (xss ++ [a]) := fun b hb => by
  rcases List.mem_append.1 hb with hb | hb
  · exact h b hb
  · rw [List.mem_singleton] at hb; subst hb; exact ⟨h1, h2⟩
theorem RowsS.sigs {n : Nat} {xss : List (List Int)} {x : PatchD} (h : RowsS n xss) (hn : n ≤ 4000) (hl : (xss.length : Int) = x.inputs) : sigsB x xss = true := by
  unfold sigsB
  rw [Bool.and_eq_true, List.all_eq_true, decide_eq_true_iff]
  refine ⟨fun a ha => ?_, hl⟩
  rw [Bool.and_eq_true, decide_eq_true_iff]
  exact ⟨by have := (h a ha).1; omega, (h a ha).2⟩
theorem renCode_zero {x : PatchD} {ins : List (List Int)} {n : Nat} (hx : okB x = true) (hs : sigsB x ins = true) (hn : n ≤ 4000) : renCode x ins (n : Int) = 0 ∧ renRes x ins (n : Int) = renL x ins n := by
  have : renCode x ins (n : Int) = 0 := by
    unfold renCode
    rw [if_pos hx, hs, Bool.true_and, if_pos (inB_iff.2 (by omega))]
  refine ⟨this, ?_⟩
  unfold renRes
  rw [if_pos this]
  rfl
theorem all_smp_snoc {xs : List Int} {y : Int} (h : xs.all isSmp = true) (hy : isSmp y = true) : (xs ++ [y]).all isSmp = true := by
  rw [List.all_append, h]; simp [hy]
end Go.Proofs.YtcfhcmgmkhfjjaaGreat

namespace Go.Proofs.YtcfhcmgmkhfjjaaGreat
open Go.ChangeShapes Go.WideShapes Go.ChangeAt Go.RowKit
set_option linter.unusedVariables false

/-- the place that each node of the second patch gets; a: the next free place -/
def chBy (outs : List Int) : Nat → List NodeD → List Int
  | _, [] => []
  | a, n :: ns => if n.kind = 1 then outs.getD n.a.toNat 0 :: chBy outs a ns else (a : Int) :: chBy outs (a + 1) ns
def chCnt : Nat → List NodeD → Nat
  | a, [] => a
  | a, n :: ns => if n.kind = 1 then chCnt a ns else chCnt (a + 1) ns
def chN (t : Int) (by_ : List Int) (n : NodeD) : NodeD := ⟨n.kind, if n.kind = 13 then n.a + t else n.a, n.b, mapL by_ n.src⟩
def chNs (t : Int) (by_ : List Int) : List NodeD → List NodeD
  | [] => []
  | n :: ns => if n.kind = 1 then chNs t by_ ns else chN t by_ n :: chNs t by_ ns
def chainBy (p q : PatchD) : List Int := chBy p.outputs p.nodes.length q.nodes
def chainP (p q : PatchD) : PatchD := ⟨p.inputs, p.tables ++ q.tables, p.nodes ++ chNs p.tables.length (chainBy p q) q.nodes, mapL (chainBy p q) q.outputs⟩
theorem chBy_length : ∀ (outs : List Int) (a : Nat) (ns : List NodeD), (chBy outs a ns).length = ns.length
  | _, _, [] => rfl
  | outs, a, n :: ns => by
    unfold chBy
    split
    · rw [List.length_cons, chBy_length, List.length_cons]
    · rw [List.length_cons, chBy_length, List.length_cons]
theorem chNs_length : ∀ (t : Int) (by_ : List Int) (a : Nat) (ns : List NodeD), a + (chNs t by_ ns).length = chCnt a ns
  | _, _, _, [] => rfl
  | t, by_, a, n :: ns => by
    unfold chNs chCnt
    split
    · exact chNs_length t by_ a ns
    · rw [List.length_cons, ← chNs_length t by_ (a + 1) ns]; omega
theorem chCnt_le : ∀ (a : Nat) (ns : List NodeD), a ≤ chCnt a ns ∧ chCnt a ns ≤ a + ns.length
  | a, [] => ⟨Nat.le_refl _, Nat.le_refl _⟩
  | a, n :: ns => by
    unfold chCnt
    split
    · have := chCnt_le a ns
      rw [List.length_cons]; omega
    · have := chCnt_le (a + 1) ns
      rw [List.length_cons]; omega
theorem chBy_in {outs : List Int} {a : Nat} {ns : List NodeD} {k : Nat} (h : k < ns.length) (hk : ns[k].kind = 1) : chBy outs a (ns.drop k) = outs.getD ns[k].a.toNat 0 :: chBy outs a (ns.drop (k + 1)) := by
  rw [List.drop_eq_getElem_cons h, chBy, if_pos hk]
theorem chBy_out {outs : List Int} {a : Nat} {ns : List NodeD} {k : Nat} (h : k < ns.length) (hk : ns[k].kind ≠ 1) : chBy outs a (ns.drop k) = (a : Int) :: chBy outs (a + 1) (ns.drop (k + 1)) := by
  rw [List.drop_eq_getElem_cons h, chBy, if_neg hk]
theorem chCnt_in {a : Nat} {ns : List NodeD} {k : Nat} (h : k < ns.length) (hk : ns[k].kind = 1) : chCnt a (ns.drop k) = chCnt a (ns.drop (k + 1)) := by
  rw [List.drop_eq_getElem_cons h, chCnt, if_pos hk]
theorem chCnt_out {a : Nat} {ns : List NodeD} {k : Nat} (h : k < ns.length) (hk : ns[k].kind ≠ 1) : chCnt a (ns.drop k) = chCnt (a + 1) (ns.drop (k + 1)) := by
  rw [List.drop_eq_getElem_cons h, chCnt, if_neg hk]
theorem chNs_in {t : Int} {by_ : List Int} {ns : List NodeD} {k : Nat} (h : k < ns.length) (hk : ns[k].kind = 1) : chNs t by_ (ns.drop k) = chNs t by_ (ns.drop (k + 1)) := by
  rw [List.drop_eq_getElem_cons h, chNs, if_pos hk]
theorem chNs_out {t : Int} {by_ : List Int} {ns : List NodeD} {k : Nat} (h : k < ns.length) (hk : ns[k].kind ≠ 1) : chNs t by_ (ns.drop k) = chN t by_ ns[k] :: chNs t by_ (ns.drop (k + 1)) := by
  rw [List.drop_eq_getElem_cons h, chNs, if_neg hk]
theorem take_set_snoc {xs : List Int} {k : Nat} (h : k < xs.length) (v : Int) : (xs.set k v).take (k + 1) = xs.take k ++ [v] := by
  rw [List.take_succ_eq_append_getElem (by rw [List.length_set]; exact h), List.getElem_set_self, List.take_set_of_le (Nat.le_refl k)]
/-! ### lists of lists are appended -/
section
theorem OwnIs.oneCell {B : Nat} {w : World} {L : List Value} {xss : List (List Int)} (h : OwnIs B w L xss) : ∀ u ∈ L, u.oneCell' = true := by
  intro u hu
  obtain ⟨i, hi, rfl⟩ := List.mem_iff_getElem.1 hu
  obtain ⟨hL, ho⟩ := h.at_ (i := i) (by rw [← h.1]; exact hi)
  exact ho.oneCell
theorem run_append_valsC (w : World) (ty E T bytes : Nat) (z : Value) (hT : Tryz.prog.underlying T = some (.slice E)) (hinfo : (Tryz.prog.info? E).map (fun i => (i.zero, i.size, i.bytes)) = some (some z, 1, bytes)) (hz : z.cells.size = 1) (hby : bytes ≤ 64)
    {B : Nat} {v : Value} {L M : List Value} (hown : OwnV B w E v L) {b o c : Nat} (hr : ∀ i (h : i < M.length), w.cell? ⟨b, o + i, none⟩ = some M[i]) (h1 : ∀ u ∈ M, u.oneCell' = true) (hlen : L.length + M.length < 1099511627776) (hB : B ≤ w.heap.size) :
    ∃ v' w', (Builtin.append_ #[T, T] ty #[v, .slice (some ⟨b, o, none⟩) M.length c]).run Tryz.prog w = .ok v' w' ∧ OwnV B w' E v' (L ++ M) ∧ w.grownBy w' v.ownBlock := by
  obtain ⟨i0, hi, hz0, hz1, hz2⟩ := info_parts hinfo
  obtain ⟨v', w', e1, e2, e3, _⟩ := run_append_own (P := Tryz.prog) w B T ty E i0 z 1 bytes hT hi hz0 hz1 hz2 hz (by decide) v L.length L hown ⟨b, o, none⟩ M.length c M (by simp)
    (by
      intro j u hu
      obtain ⟨hj, rfl⟩ := List.getElem?_eq_some_iff.1 hu
      rw [Addr.add_lit]
      exact hr j hj)
    h1 (by simp only [maxLen]; omega)
    (by have : (L.length + M.length) * bytes ≤ 1099511627776 * 64 := Nat.mul_le_mul (by omega) hby
        omega) hB
  exact ⟨v', w', e1, by simpa [OwnV] using e2, e3⟩
theorem run_append_valsN (w : World) (ty E T : Nat) (bytes : Nat) (z : Value) (hT : Tryz.prog.underlying T = some (.slice E)) (hinfo : (Tryz.prog.info? E).map (fun i => (i.zero, i.size, i.bytes)) = some (some z, 1, bytes)) (hz : z.cells.size = 1) (hby : bytes ≤ 64)
    {B B' : Nat} {v u : Value} {L M : List Value} (hown : OwnV B w E v L) (hsrc : OwnV B' w E u M) (h1 : ∀ u ∈ M, u.oneCell' = true) (hlen : L.length + M.length < 1099511627776) (hB : B ≤ w.heap.size) :
    ∃ v' w', (Builtin.append_ #[T, T] ty #[v, u]).run Tryz.prog w = .ok v' w' ∧ OwnV B w' E v' (L ++ M) ∧ w.grownBy w' v.ownBlock := by
  rcases hsrc.cases with ⟨rfl, rfl⟩ | ⟨g, cap, rfl, -, -, -, hr⟩
  · obtain ⟨i0, hi, hz0, hz1, hz2⟩ := info_parts hinfo
    refine ⟨v, w, ?_, by simpa using hown, ⟨rfl, rfl, rfl, Nat.le_refl _, fun _ _ _ => rfl⟩⟩
    rcases hown.2 with ⟨rfl, h0⟩ | ⟨g, cap, cur, rfl, _, _, hnc, _⟩
    · simp [Builtin.append_, run_underlying hT, sizeOf, typeInfo, hi, Builtin.lenOf, Builtin.firstCells]
    · simp [Builtin.append_, run_underlying hT, sizeOf, typeInfo, hi, Builtin.lenOf, Builtin.firstCells, hnc, storeCells]
  · refine run_append_valsC w ty E T bytes z hT hinfo hz hby hown (o := 0) (fun i hi => ?_) h1 hlen hB
    obtain ⟨b, o, e, -, hc⟩ := hr.pos hi
    simp only [Option.some.injEq, Addr.mk.injEq, and_true] at e
    obtain ⟨rfl, rfl⟩ := e
    exact hc i hi
theorem wpList_append_valsC {ops : Array Oper} {rest : List Oper} {o : Oper} {a : Act} {Q : Exit → Act → World → Prop} {w : World} {E T : Nat} (hgd : o.guard = none) (s x : Operand)
    (ho : o.op = .call { callee := .builtin .append, args := #[s, x], argTypes := #[T, T] }) (bytes : Nat) (z : Value) (hT : Tryz.prog.underlying T = some (.slice E)) (hinfo : (Tryz.prog.info? E).map (fun i => (i.zero, i.size, i.bytes)) = some (some z, 1, bytes)) (hz : z.cells.size = 1) (hby : bytes ≤ 64)
    {B B' : Nat} {v u : Value} {L M : List Value} (hs : a.eval s = v) (hx : a.eval x = u) (hown : OwnV B w E v L) (hsrc : OwnV B' w E u M) (h1 : ∀ u ∈ M, u.oneCell' = true) (hlen : L.length + M.length < 1099511627776) (hB : B ≤ w.heap.size)
    (h : ∀ v' w', OwnV B w' E v' (L ++ M) → w.grownBy w' v.ownBlock → wpList Tryz.prog ops Q rest (a.put o.dst v') w') : wpList Tryz.prog ops Q (o :: rest) a w := by
  refine wpList_plain hgd fun K hK => ?_
  obtain ⟨v', w', e1, e2, e3⟩ := run_append_valsN w o.type E T bytes z hT hinfo hz hby hown hsrc h1 hlen hB
  unfold Oper.wp execOp
  simp only [ho, resolve, invoke, builtin, Sem.run_bind, Sem.run_pure, Result.andThen_ok, List.map_toArray, List.map_cons, List.map_nil, hs, hx, e1]
  exact hK _ _ (h v' w' e2 e3)
theorem step_append_vals {ops : Array Oper} {o : Oper} {a : Act} {K : Act → World → Prop} {Q : Exit → Act → World → Prop} {X : Prop} {w : World} {E T : Nat} (hgd : o.guard = none) (s x : Operand)
    (ho : o.op = .call { callee := .builtin .append, args := #[s, x], argTypes := #[T, T] }) (bytes : Nat) (z : Value) (hT : Tryz.prog.underlying T = some (.slice E)) (hinfo : (Tryz.prog.info? E).map (fun i => (i.zero, i.size, i.bytes)) = some (some z, 1, bytes)) (hz : z.cells.size = 1) (hby : bytes ≤ 64)
    {B B' : Nat} {v u : Value} {L M : List Value} (hs : a.eval s = v) (hx : a.eval x = u) (hown : OwnV B w E v L) (hsrc : OwnV B' w E u M) (h1 : ∀ u ∈ M, u.oneCell' = true) (hlen : L.length + M.length < 1099511627776) (hB : B ≤ w.heap.size)
    (h : ∀ v' w', OwnV B w' E v' (L ++ M) → w.grownBy w' v.ownBlock → K (a.put o.dst v') w') :
    if Region.wanted o (yielded ops a.tmps) = true then Oper.wp Tryz.prog o a w K Q else X := by
  have hw : Region.wanted o (yielded ops a.tmps) = true := by simp [Region.wanted, hgd]
  rw [if_pos hw]
  obtain ⟨v', w', e1, e2, e3⟩ := run_append_valsN w o.type E T bytes z hT hinfo hz hby hown hsrc h1 hlen hB
  unfold Oper.wp execOp
  simp only [ho, resolve, invoke, builtin, Sem.run_bind, Sem.run_pure, Result.andThen_ok, List.map_toArray, List.map_cons, List.map_nil, hs, hx, e1]
  exact h v' w' e2 e3
end
section
variable {B : Nat} {w0 w : World} {s : Nat} {inp : Int} {v1 v2 v3 : Value} {ts : List (List Int)} {ns : List NodeD} {os : List Int} {L1 L : List Value}
/-- more tables -/
theorem OwnP.tables {w' : World} {v1' : Value} {M : List Value} {ts' : List (List Int)} (h : OwnP B w v1 v2 v3 ts ns os L1 L) (hs : OwnIs B w M ts') (hd : Dis M) (hsep : ∀ b, Blk M b → ¬ Blk (L1 ++ (L ++ [v3])) b) (hv : OwnV B w' 26 v1' (L1 ++ M))
    (hk : ∀ k, k < w.heap.size → v1.ownBlock ≠ some k → w'.heap[k]? = w.heap[k]?) : OwnP B w' v1' v2 v3 (ts ++ ts') ns os (L1 ++ M) L := by
  have t1 := Typed.of h.o1
  refine ⟨hv, ?_, h.o2.keep fun k e => hk k (h.o2.lt e).2 fun e' => t1.ne (Typed.of h.o2.2) (by decide) e' e, h.s2.keep fun k hb => hk k (h.s2.blk hb).2.1 fun e => ?_, h.o3.keep fun k e => hk k (h.o3.lt e).2 fun e' => t1.ne (Typed.of h.o3) (by decide) e' e, ?_⟩
  · refine (h.s1.keep fun k hb => hk k (h.s1.blk hb).2.1 fun e => ?_).append (hs.keep fun k hb => hk k (hs.blk hb).2.1 fun e => ?_)
    · obtain ⟨v, hv, hb⟩ := hb
      exact t1.ne (h.s1.typed hv) (by decide) e hb
    · obtain ⟨v, hv, hb⟩ := hb
      exact t1.ne (hs.typed hv) (by decide) e hb
  · obtain ⟨v, hv, hb⟩ := hb
    exact t1.ne (h.s2.typed hv) (by decide) e hb
  · have hdd := h.dis
    rw [List.append_assoc]
    refine Dis.append hdd.left (Dis.append hd hdd.right fun b hb hb' => hsep b hb (blk_append.2 (.inr hb'))) fun b hb hb' => ?_
    rcases blk_append.1 hb' with h1 | h1
    · exact hsep b h1 (blk_append.2 (.inl hb))
    · exact hdd.sep b hb h1
theorem PB.tables {w' : World} {v1' : Value} {M : List Value} {ts' : List (List Int)} (h : PB B w0 w s inp v1 v2 v3 ts ns os L1 L) (hs : OwnIs B w M ts') (hd : Dis M) (hsep : ∀ b, Blk M b → ¬ Blk (L1 ++ (L ++ [v3])) b) (hv : OwnV B w' 26 v1' (L1 ++ M)) (hg : w.grownBy w' v1.ownBlock) :
    (w'.cell? ⟨s, 1, none⟩ = some v1 ∧ w'.frozen? ⟨s, 1, none⟩ = false) ∧ PB B w0 (w'.setCell ⟨s, 1, none⟩ v1') s inp v1' v2 v3 (ts ++ ts') ns os (L1 ++ M) L := by
  have hk : ∀ k, k < w.heap.size → v1.ownBlock ≠ some k → w'.heap[k]? = w.heap[k]? := fun k hk hne => hg.block k hk fun e => hne e.symm
  have o' := h.own.tables hs hd hsep hv hk
  have n1 := (h.own.neBox h.out patchT).1
  have out' := h.out.keep (hk _ h.out.lt n1)
  have bel' : Below w0.heap.size w0 w' := h.bel.grown hg h.bel.size fun k hk => by have := (h.own.o1.lt hk).1; have := h.hB; omega
  exact ⟨⟨out'.cell 1 rfl, out'.frozen 1⟩, o'.setBox out' patchT 1 _, by simpa using out'.set 1 v1', bel'.setCell (by simpa using h.hs) _, h.hB, h.hs⟩
end
end Go.Proofs.YtcfhcmgmkhfjjaaGreat

namespace Go.Proofs.YtcfhcmgmkhfjjaaGreat
open Go.ChangeShapes Go.WideShapes Go.ChangeAt Go.RowKit Go.Sort
set_option linter.unusedVariables false

def noN : NodeD := ⟨0, 0, 0, []⟩
/-- the nodes of the second patch that stand in the chain; i: the first one's number -/
def chInv : Nat → List NodeD → List Nat
  | _, [] => []
  | i, n :: ns => if n.kind = 1 then chInv (i + 1) ns else i :: chInv (i + 1) ns
theorem chInv_length (t : Int) (by_ : List Int) : ∀ (i : Nat) (ns : List NodeD), (chInv i ns).length = (chNs t by_ ns).length
  | _, [] => rfl
  | i, n :: ns => by
    unfold chInv chNs
    split
    · exact chInv_length t by_ (i + 1) ns
    · rw [List.length_cons, List.length_cons, chInv_length t by_ (i + 1) ns]
theorem chInv_at (t : Int) (by_ : List Int) : ∀ (i : Nat) (ns : List NodeD) (j : Nat), j < (chInv i ns).length → ∃ k, k < ns.length ∧ (chInv i ns).getD j 0 = i + k ∧ (ns.getD k noN).kind ≠ 1 ∧ (chNs t by_ ns).getD j noN = chN t by_ (ns.getD k noN)
  | _, [], j, h => by simp [chInv] at h
  | i, n :: ns, j, h => by
    unfold chInv at h ⊢
    unfold chNs
    by_cases hk : n.kind = 1
    · rw [if_pos hk] at h ⊢
      rw [if_pos hk]
      obtain ⟨k, h1, h2, h3, h4⟩ := chInv_at t by_ (i + 1) ns j h
      exact ⟨k + 1, by simp; omega, by rw [h2]; omega, h3, h4⟩
    · rw [if_neg hk] at h ⊢
      rw [if_neg hk]
      cases j with
      | zero => exact ⟨0, by simp, rfl, hk, rfl⟩
      | succ j =>
        obtain ⟨k, h1, h2, h3, h4⟩ := chInv_at t by_ (i + 1) ns j (by simpa using h)
        exact ⟨k + 1, by simp; omega, by show (chInv (i + 1) ns).getD j 0 = _; rw [h2]; omega, h3, h4⟩
theorem chBy_node (t : Int) (by_ outs : List Int) : ∀ (i a : Nat) (ns : List NodeD) (k : Nat), k < ns.length → (ns.getD k noN).kind ≠ 1 → ∃ j, j < (chInv i ns).length ∧ (chInv i ns).getD j 0 = i + k ∧ (chBy outs a ns).getD k 0 = ((a + j : Nat) : Int) ∧ (chNs t by_ ns).getD j noN = chN t by_ (ns.getD k noN)
  | _, _, [], k, h, _ => by simp at h
  | i, a, n :: ns, k, h, hk => by
    unfold chInv chBy chNs
    by_cases hn : n.kind = 1
    · rw [if_pos hn, if_pos hn, if_pos hn]
      cases k with
      | zero => exact absurd hn hk
      | succ k =>
        obtain ⟨j, h1, h2, h3, h4⟩ := chBy_node t by_ outs (i + 1) a ns k (by simpa using h) hk
        exact ⟨j, h1, by rw [h2]; omega, h3, h4⟩
    · rw [if_neg hn, if_neg hn, if_neg hn]
      cases k with
      | zero => exact ⟨0, by simp, rfl, rfl, rfl⟩
      | succ k =>
        obtain ⟨j, h1, h2, h3, h4⟩ := chBy_node t by_ outs (i + 1) (a + 1) ns k (by simpa using h) hk
        refine ⟨j + 1, by simp; omega, ?_, ?_, h4⟩
        · show (chInv (i + 1) ns).getD j 0 = _; rw [h2]; omega
        · show (chBy outs (a + 1) ns).getD k 0 = _; rw [h3]; omega
theorem chBy_inp (outs : List Int) : ∀ (a : Nat) (ns : List NodeD) (k : Nat), k < ns.length → (ns.getD k noN).kind = 1 → (chBy outs a ns).getD k 0 = outs.getD (ns.getD k noN).a.toNat 0
  | _, [], k, h, _ => by simp at h
  | a, n :: ns, k, h, hk => by
    unfold chBy
    by_cases hn : n.kind = 1
    · rw [if_pos hn]
      cases k with
      | zero => rfl
      | succ k => exact chBy_inp outs a ns k (by simpa using h) hk
    · rw [if_neg hn]
      cases k with
      | zero => exact absurd hk hn
      | succ k => exact chBy_inp outs (a + 1) ns k (by simpa using h) hk
/-! ### what a patch's nodes ask -/
theorem ndB_parts {m t n : Int} {x : NodeD} : ndB m t n x = true ↔ inB x.kind 1 17 = true ∧ aB x.kind x.a t = true ∧ (x.src.length : Int) = kAr (x.kind - 1).toNat ∧ (∀ f ∈ x.src, 0 ≤ f ∧ f ≤ 23) ∧ (if x.kind = 17 then inB x.b 1 16 else x.b == 0) = true ∧ (x.kind = 1 → x.a < m) ∧ ∀ f ∈ x.src, 0 ≤ f ∧ f < n := by
  unfold ndB
  rw [nodeB_split]
  simp only [Bool.and_eq_true, List.all_eq_true, inB_iff, beq_iff_eq, Bool.not_eq_true', Bool.and_eq_false_iff, beq_eq_false_iff_ne, decide_eq_false_iff_not]
  constructor
  · rintro ⟨⟨⟨a, b, c, d, e⟩, f⟩, g⟩
    exact ⟨a, b, c, d, e, fun h => by rcases f with f | f; exact absurd h f; omega, fun y hy => by have := g y hy; omega⟩
  · rintro ⟨a, b, c, d, e, f, g⟩
    refine ⟨⟨⟨a, b, c, d, e⟩, ?_⟩, fun y hy => by have := g y hy; omega⟩
    by_cases h : x.kind = 1
    · right; have := f h; omega
    · exact .inl h
theorem aB_tab {k a t t' : Int} (h : aB k a t = true) (ht : t ≤ t') (ht4 : t' ≤ 4) : aB k a t' = true := by
  unfold aB at h ⊢
  split
  · rename_i hk
    rw [if_pos hk, inB_iff] at h
    rw [inB_iff]; omega
  · rename_i hk
    rw [if_neg hk] at h; exact h
theorem aB_shift {k a t t0 : Int} (h : aB k a t = true) (hk : k = 13) (h0 : 0 ≤ t0) (ht4 : t0 + t ≤ 4) : aB k (a + t0) (t0 + t) = true := by
  unfold aB at h ⊢
  rw [if_pos hk, inB_iff] at h ⊢
  omega
section
variable {p q : PatchD}
theorem formed_in {x : PatchD} (hf : formedB x = true) {k : Nat} (h : k < x.nodes.length) : ndB x.inputs x.tables.length x.nodes.length (ndI x.nodes k) = true := by
  rw [ndI_at h]; exact (formed_iff.1 hf).2.2.2.2.1 _ (List.getElem_mem h)
theorem formed_a {x : PatchD} (hf : formedB x = true) {k : Nat} (h : k < x.nodes.length) (h1 : (ndI x.nodes k).kind = 1) : 0 ≤ (ndI x.nodes k).a ∧ (ndI x.nodes k).a < x.inputs := by
  have hn := ndB_parts.1 (formed_in hf h)
  refine ⟨?_, hn.2.2.2.2.2.1 h1⟩
  have h2 := hn.2.1
  rw [h1] at h2
  have h3 : inB (ndI x.nodes k).a 0 3 = true := h2
  rw [inB_iff] at h3; exact h3.1
theorem chain_len (p q : PatchD) : (chainP p q).nodes.length = chCnt p.nodes.length q.nodes := by
  unfold chainP
  rw [List.length_append]
  exact chNs_length _ _ _ _
theorem chain_left {k : Nat} (h : k < p.nodes.length) : ndI (chainP p q).nodes (k : Int) = ndI p.nodes (k : Int) := by
  unfold ndI chainP
  rw [Int.toNat_natCast, List.getD_eq_getElem?_getD, List.getElem?_append_left h, ← List.getD_eq_getElem?_getD]
theorem chain_right (j : Nat) : ndI (chainP p q).nodes ((p.nodes.length + j : Nat) : Int) = (chNs p.tables.length (chainBy p q) q.nodes).getD j noN := by
  unfold ndI chainP
  rw [Int.toNat_natCast, List.getD_eq_getElem?_getD, List.getElem?_append_right (by omega), ← List.getD_eq_getElem?_getD, Nat.add_sub_cancel_left]
  rfl
/-- where the second patch's nodes lie -/
def chPhi (p q : PatchD) (k : Nat) : Nat := ((chainBy p q).getD k 0).toNat
theorem chain_node {k : Nat} (h : k < q.nodes.length) (hk : (ndI q.nodes k).kind ≠ 1) : ∃ j, j < (chInv 0 q.nodes).length ∧ (chInv 0 q.nodes).getD j 0 = k ∧ (chainBy p q).getD k 0 = ((p.nodes.length + j : Nat) : Int) ∧ ndI (chainP p q).nodes ((p.nodes.length + j : Nat) : Int) = chN p.tables.length (chainBy p q) (ndI q.nodes k) := by
  have hk' : (q.nodes.getD k noN).kind ≠ 1 := by have := hk; unfold ndI at this; rw [Int.toNat_natCast] at this; exact this
  obtain ⟨j, h1, h2, h3, h4⟩ := chBy_node p.tables.length (chainBy p q) p.outputs 0 p.nodes.length q.nodes k h hk'
  refine ⟨j, h1, by rw [h2]; omega, h3, ?_⟩
  rw [chain_right, h4]
  unfold ndI; rw [Int.toNat_natCast]; rfl
theorem chain_inp {k : Nat} (h : k < q.nodes.length) (hk : (ndI q.nodes k).kind = 1) : (chainBy p q).getD k 0 = p.outputs.getD (ndI q.nodes k).a.toNat 0 := by
  have hk' : (q.nodes.getD k noN).kind = 1 := by have := hk; unfold ndI at this; rw [Int.toNat_natCast] at this; exact this
  have := chBy_inp p.outputs p.nodes.length q.nodes k h hk'
  unfold ndI; rw [Int.toNat_natCast]; exact this
theorem chInv_le (p q : PatchD) : p.nodes.length + (chInv 0 q.nodes).length = chCnt p.nodes.length q.nodes := by
  rw [chInv_length p.tables.length (chainBy p q)]
  exact chNs_length _ _ _ _
theorem outs_at (hf : formedB p = true) {a : Nat} (h : a < p.outputs.length) : 0 ≤ p.outputs.getD a 0 ∧ p.outputs.getD a 0 < (p.nodes.length : Int) := by
  rw [List.getD_eq_getElem?_getD, List.getElem?_eq_getElem h]
  exact (formed_iff.1 hf).2.2.2.2.2 _ (List.getElem_mem h)
theorem chBy_range (hp : formedB p = true) (hq : formedB q = true) (hio : (p.outputs.length : Int) = q.inputs) {k : Nat} (h : k < q.nodes.length) :
    0 ≤ (chainBy p q).getD k 0 ∧ (chainBy p q).getD k 0 < (chCnt p.nodes.length q.nodes : Int) ∧ ((ndI q.nodes k).kind = 1 → (chainBy p q).getD k 0 < (p.nodes.length : Int)) := by
  have hc := chCnt_le p.nodes.length q.nodes
  by_cases hk : (ndI q.nodes k).kind = 1
  · have ha := formed_a hq h hk
    rw [chain_inp h hk]
    have := outs_at hp (a := (ndI q.nodes k).a.toNat) (by omega)
    exact ⟨this.1, by omega, fun _ => this.2⟩
  · obtain ⟨j, h1, h2, h3, h4⟩ := chain_node (p := p) h hk
    rw [h3]
    have := chInv_le p q
    exact ⟨by omega, by omega, fun e => absurd e hk⟩
theorem chain_formed (hp : formedB p = true) (hq : formedB q = true) (hio : (p.outputs.length : Int) = q.inputs) (hn : chCnt p.nodes.length q.nodes ≤ 24) (ht : p.tables.length + q.tables.length ≤ 4) : formedB (chainP p q) = true := by
  have P := formed_iff.1 hp
  have Q := formed_iff.1 hq
  have hc := chCnt_le p.nodes.length q.nodes
  have hl := chain_len p q
  have htl : ((chainP p q).tables.length : Int) = (p.tables.length : Int) + (q.tables.length : Int) := by unfold chainP; simp
  have nodes : ∀ k, k < (chainP p q).nodes.length → ndB p.inputs (chainP p q).tables.length (chainP p q).nodes.length (ndI (chainP p q).nodes (k : Int)) = true := fun k hk => by
    rw [hl] at hk ⊢
    rw [htl]
    by_cases h1 : k < p.nodes.length
    · rw [chain_left h1]
      obtain ⟨a, b, c, d, e, f, g⟩ := ndB_parts.1 (formed_in hp h1)
      exact ndB_parts.2 ⟨a, aB_tab b (by omega) (by omega), c, d, e, f, fun y hy => by have := g y hy; omega⟩
    · obtain ⟨j, rfl⟩ : ∃ j, k = p.nodes.length + j := ⟨k - p.nodes.length, by omega⟩
      have hj : j < (chInv 0 q.nodes).length := by have := chInv_le p q; omega
      obtain ⟨i, i1, i2, i3, i4⟩ := chInv_at p.tables.length (chainBy p q) 0 q.nodes j hj
      rw [chain_right, i4]
      have hi : q.nodes.getD i noN = ndI q.nodes (i : Int) := by unfold ndI; rw [Int.toNat_natCast]; rfl
      rw [hi] at i3 ⊢
      obtain ⟨a, b, c, d, e, f, g⟩ := ndB_parts.1 (formed_in hq i1)
      have hsrc : ∀ y ∈ mapL (chainBy p q) (ndI q.nodes (i : Int)).src, 0 ≤ y ∧ y < (chCnt p.nodes.length q.nodes : Int) := fun y hy => by
        unfold mapL at hy
        obtain ⟨s, hs, rfl⟩ := List.mem_map.1 hy
        have := g s hs
        have := chBy_range hp hq hio (k := s.toNat) (by omega)
        exact ⟨this.1, this.2.1⟩
      refine ndB_parts.2 ⟨a, ?_, by show ((mapL _ _).length : Int) = _; rw [mapL_length]; exact c, fun y hy => by have := hsrc y hy; omega, e, fun h => absurd h i3, hsrc⟩
      show aB (ndI q.nodes (i : Int)).kind (if (ndI q.nodes (i : Int)).kind = 13 then (ndI q.nodes (i : Int)).a + (p.tables.length : Int) else (ndI q.nodes (i : Int)).a) _ = true
      split
      · rename_i h13
        exact aB_shift b h13 (by omega) (by omega)
      · exact aB_tab b (by omega) (by omega)
  refine formed_iff.2 ⟨P.1, ?_, by rw [hl]; exact hn, by show (mapL _ _).length ≤ 4; rw [mapL_length]; exact Q.2.2.2.1, fun y hy => ?_, fun y hy => ?_⟩
  · have h1 := P.2.1
    have h2 := Q.2.1
    unfold tablesB at h1 h2 ⊢
    show ((p.tables ++ q.tables).all tblB && decide ((p.tables ++ q.tables).length ≤ 4)) = true
    simp only [Bool.and_eq_true, decide_eq_true_eq] at h1 h2 ⊢
    exact ⟨by rw [List.all_append, h1.1, h2.1]; rfl, by rw [List.length_append]; omega⟩
  · obtain ⟨k, hk, rfl⟩ := List.mem_iff_getElem.1 hy
    have := nodes k hk
    rw [ndI_at hk] at this
    exact this
  · have hy' : y ∈ mapL (chainBy p q) q.outputs := hy
    unfold mapL at hy'
    obtain ⟨s, hs, rfl⟩ := List.mem_map.1 hy'
    have := Q.2.2.2.2.2 s hs
    have := chBy_range hp hq hio (k := s.toNat) (by omega)
    rw [hl]
    exact ⟨this.1, this.2.1⟩
theorem chain_okB (hp : okB p = true) (hq : okB q = true) (hio : (p.outputs.length : Int) = q.inputs) (hn : chCnt p.nodes.length q.nodes ≤ 24) (ht : p.tables.length + q.tables.length ≤ 4) : okB (chainP p q) = true := by
  have fp := (okR_len hp).1
  have fq := (okR_len hq).1
  obtain ⟨ρ, r1, r2⟩ := okR_ranked hp
  obtain ⟨σ, s1, s2⟩ := okR_ranked hq
  refine rankedR_okB (ρ := fun j => if j.toNat < p.nodes.length then ρ j else 25 + σ ((chInv 0 q.nodes).getD (j.toNat - p.nodes.length) 0 : Nat)) (chain_formed fp fq hio hn ht) fun j h0 hj s hs => ?_
  obtain ⟨k, rfl⟩ := Int.eq_ofNat_of_zero_le h0
  rw [chain_len] at hj
  dsimp only
  rw [Int.toNat_natCast]
  by_cases h1 : k < p.nodes.length
  · rw [chain_left h1] at hs
    have hr := formedR_src fp h1 s (waits_src hs)
    rw [if_pos h1, if_pos (by omega)]
    exact r1 _ (by omega) (by omega) s hs
  · rw [if_neg h1]
    obtain ⟨j, rfl⟩ : ∃ j, k = p.nodes.length + j := ⟨k - p.nodes.length, by omega⟩
    have hj' : j < (chInv 0 q.nodes).length := by have := chInv_le p q; omega
    obtain ⟨i, i1, i2, i3, i4⟩ := chInv_at p.tables.length (chainBy p q) 0 q.nodes j hj'
    rw [chain_right, i4] at hs
    have hi : q.nodes.getD i noN = ndI q.nodes (i : Int) := by unfold ndI; rw [Int.toNat_natCast]; rfl
    rw [hi] at i3 hs
    rw [Nat.add_sub_cancel_left, i2, Nat.zero_add]
    have hw : ∃ t ∈ waits (ndI q.nodes (i : Int)), s = (chainBy p q).getD t.toNat 0 := by
      unfold waits at hs ⊢
      show ∃ t ∈ (if (ndI q.nodes (i : Int)).kind = 6 then [] else (ndI q.nodes (i : Int)).src), _
      change s ∈ (if (ndI q.nodes (i : Int)).kind = 6 then [] else mapL (chainBy p q) (ndI q.nodes (i : Int)).src) at hs
      split at hs
      · simp at hs
      · rename_i h6
        rw [if_neg h6]
        unfold mapL at hs
        obtain ⟨t, ht, rfl⟩ := List.mem_map.1 hs
        exact ⟨t, ht, rfl⟩
    obtain ⟨t, htw, rfl⟩ := hw
    have hr := formedR_src fq i1 t (waits_src htw)
    obtain ⟨m, rfl⟩ := Int.eq_ofNat_of_zero_le hr.1
    have hm : m < q.nodes.length := by omega
    have hlt := s1 (i : Int) (by omega) (by omega) _ htw
    rw [Int.toNat_natCast]
    by_cases hk : (ndI q.nodes (m : Int)).kind = 1
    · have := (chBy_range fp fq hio hm)
      have h3 := this.2.2 hk
      rw [if_pos (by omega)]
      have := r2 ((chainBy p q).getD m 0)
      omega
    · obtain ⟨l, l1, l2, l3, l4⟩ := chain_node (p := p) hm hk
      rw [l3, Int.toNat_natCast, if_neg (by omega), Nat.add_sub_cancel_left, l2]
      omega
theorem outP_same {n m : NodeD} {tb tb' : List (List Int)} (hk : m.kind = n.kind) (ha : n.kind ≠ 13 → m.a = n.a) (ht : n.kind = 13 → tb'.getD m.a.toNat [] = tb.getD n.a.toNat []) (xs ss : List Int) : outP n tb xs ss = outP m tb' xs ss := by
  unfold outP
  by_cases h : n.kind = 13
  · rw [hk, h]
    show lookP (tb.getD n.a.toNat []) (xs.getD 0 0) = lookP (tb'.getD m.a.toNat []) (xs.getD 0 0)
    rw [ht h]
  · rw [hk, ha h]
    have hn : n.kind.toNat ≠ 13 := by omega
    unfold outK
    split <;> first | rfl | (exact absurd ‹_› hn) | (exfalso; simp_all)
theorem tab_of (hf : formedB p = true) {k : Nat} (h : k < p.nodes.length) (h13 : (ndI p.nodes k).kind = 13) : 0 ≤ (ndI p.nodes k).a ∧ (ndI p.nodes k).a < (p.tables.length : Int) := by
  have hb := (ndB_parts.1 (formed_in hf h)).2.1
  unfold aB at hb
  rw [if_pos h13, inB_iff] at hb
  omega
theorem chain_emb1 (hp : formedB p = true) : Emb p (chainP p q) (fun k => k) (fun _ => False) := by
  have hl := chain_len p q
  have hc := chCnt_le p.nodes.length q.nodes
  refine ⟨fun k hk => by omega, fun k hk h => h.elim, fun k hk _ xs ss => ?_, fun k hk _ xs ss y => by rw [chain_left hk], fun k hk _ => by rw [chain_left hk], fun k hk _ => by rw [chain_left hk], fun k hk _ _ => by rw [chain_left hk], fun k hk _ => ⟨?_, formedR_src hp hk⟩⟩
  · rw [chain_left hk]
    refine outP_same rfl (fun _ => rfl) (fun h => ?_) xs ss
    have := tab_of hp hk h
    show (p.tables ++ q.tables).getD _ [] = _
    rw [List.getD_eq_getElem?_getD, List.getElem?_append_left (by omega), ← List.getD_eq_getElem?_getD]
  · rw [chain_left hk]
    conv => lhs; rw [← List.map_id (ndI p.nodes (k : Int)).src]
    refine List.map_congr_left fun s hs => ?_
    have := formedR_src hp hk s hs
    show s = ((s.toNat : Nat) : Int)
    omega
theorem chain_emb2 (hp : formedB p = true) (hq : formedB q = true) (hio : (p.outputs.length : Int) = q.inputs) : Emb q (chainP p q) (chPhi p q) (fun k => (ndI q.nodes (k : Int)).kind = 1) := by
  have hl := chain_len p q
  have node : ∀ k, k < q.nodes.length → (ndI q.nodes (k : Int)).kind ≠ 1 → ndI (chainP p q).nodes ((chPhi p q k : Nat) : Int) = chN p.tables.length (chainBy p q) (ndI q.nodes k) := fun k hk h1 => by
    obtain ⟨j, _, _, h3, h4⟩ := chain_node (p := p) hk h1
    unfold chPhi
    rw [h3, Int.toNat_natCast]
    exact h4
  refine ⟨fun k hk => ?_, fun k hk h => h, fun k hk h xs ss => ?_, fun k hk h xs ss y => by rw [node k hk h]; rfl, fun k hk h => ?_, fun k hk h => by rw [node k hk h]; rfl, fun k hk h h1 => absurd h1 h, fun k hk h => ⟨?_, formedR_src hq hk⟩⟩
  · have := chBy_range hp hq hio hk
    unfold chPhi
    omega
  · rw [node k hk h]
    refine outP_same (n := ndI q.nodes (k : Int)) (m := chN p.tables.length (chainBy p q) (ndI q.nodes k)) rfl (fun h13 => by show (if _ then _ else _) = _; rw [if_neg h13]) (fun h13 => ?_) xs ss
    have := tab_of hq hk h13
    show (p.tables ++ q.tables).getD (if _ then _ else _ : Int).toNat [] = _
    rw [if_pos h13, List.getD_eq_getElem?_getD, List.getElem?_append_right (by omega), ← List.getD_eq_getElem?_getD]
    congr 1
    omega
  · rw [node k hk h]
    unfold startL
    show _ = if (ndI q.nodes (k : Int)).kind = 6 then List.replicate (if (ndI q.nodes (k : Int)).kind = 13 then (ndI q.nodes (k : Int)).a + (p.tables.length : Int) else (ndI q.nodes (k : Int)).a).toNat 0 else if (ndI q.nodes (k : Int)).kind = 17 then List.replicate (ndI q.nodes (k : Int)).b.toNat 0 else if (ndI q.nodes (k : Int)).kind = 7 ∨ (ndI q.nodes (k : Int)).kind = 8 ∨ (ndI q.nodes (k : Int)).kind = 16 then [0] else if (ndI q.nodes (k : Int)).kind = 12 ∨ (ndI q.nodes (k : Int)).kind = 14 then [if (ndI q.nodes (k : Int)).kind = 13 then (ndI q.nodes (k : Int)).a + (p.tables.length : Int) else (ndI q.nodes (k : Int)).a] else []
    by_cases h13 : (ndI q.nodes (k : Int)).kind = 13
    · rw [h13]; rfl
    · rw [if_neg h13]
  · rw [node k hk h]
    show mapL (chainBy p q) (ndI q.nodes (k : Int)).src = _
    unfold mapL
    refine List.map_congr_left fun s hs => ?_
    have := formedR_src hq hk s hs
    have := chBy_range hp hq hio (k := s.toNat) (by omega)
    show (chainBy p q).getD s.toNat 0 = ((((chainBy p q).getD s.toNat 0).toNat : Nat) : Int)
    omega
theorem renL_get {x : PatchD} {ins : List (List Int)} {n a i : Nat} (ha : a < x.outputs.length) (hi : i < n) : (frN (renL x ins n) i).getD a 0 = (vsI x ins i).getD (x.outputs.getD a 0).toNat 0 := by
  unfold frN renL
  rw [List.map_map, List.getD_eq_getElem?_getD, List.getElem?_map, List.getElem?_eq_getElem ha]
  show ((List.range n).map fun i => (vsI x ins i).getD x.outputs[a].toNat 0).getD i 0 = _
  rw [getD_map_range _ _ hi, List.getD_eq_getElem?_getD (l := x.outputs), List.getElem?_eq_getElem ha]
  rfl
/-- the chain renders as one patch after the other -/
theorem chain_render (hp : okB p = true) (hq : okB q = true) (hio : (p.outputs.length : Int) = q.inputs) (hn : chCnt p.nodes.length q.nodes ≤ 24) (ht : p.tables.length + q.tables.length ≤ 4) (ins : List (List Int)) (n : Nat) :
    renL q (renL p ins n) n = renL (chainP p q) ins n := by
  have fp := (okR_len hp).1
  have fq := (okR_len hq).1
  have hr := chain_okB hp hq hio hn ht
  have R1 := (chain_emb1 (q := q) fp).run hp hr (ins' := ins) (ins := ins) (n := n) (fun _ _ _ _ => rfl) (fun _ _ _ _ h => h.elim)
  have R2 := (chain_emb2 fp fq hio).run hq hr (ins' := renL p ins n) (ins := ins) (n := n) (fun _ _ _ ⟨_, _, h1, h2, _⟩ => absurd h2 h1) (fun i hi k hk h1 => by
    have ha := formed_a fq hk h1
    have hal : (ndI q.nodes (k : Int)).a.toNat < p.outputs.length := by omega
    rw [renL_get hal hi, (R1 i hi).2]
    have ho := outs_at fp hal
    unfold atL chPhi
    rw [getD_map_range _ _ (by omega), chain_inp hk h1])
  unfold renL
  show _ = (mapL (chainBy p q) q.outputs).map _
  unfold mapL
  rw [List.map_map]
  refine List.map_congr_left fun o ho => ?_
  have hob := (formed_iff.1 fq).2.2.2.2.2 o ho
  refine List.map_congr_left fun i hi => ?_
  have hi' : i < n := by simpa using hi
  show (vsI q (renL p ins n) i).getD o.toNat 0 = (vsI (chainP p q) ins i).getD ((chainBy p q).getD o.toNat 0).toNat 0
  rw [(R2 i hi').2]
  unfold atL chPhi
  rw [getD_map_range _ _ (by omega)]
end
end Go.Proofs.YtcfhcmgmkhfjjaaGreat

namespace Go.Proofs.YtcfhcmgmkhfjjaaGreat
open Go.ChangeShapes Go.WideShapes Go.ChangeAt Go.RowKit Go.Sort
set_option linter.unusedVariables false

/-- nodes that can stand alone: with all that they have as inputs, and the outputs among them -/
structure KeepOk (x : PatchD) (keep : List Int) : Prop where
  rise : Rising keep
  rng : ∀ i ∈ keep, 0 ≤ i ∧ i < (x.nodes.length : Int)
  outs : ∀ o ∈ x.outputs, o ∈ keep
  shut : ∀ i ∈ keep, ∀ s ∈ (ndI x.nodes i).src, s ∈ keep
theorem need_keep {x : PatchD} (hf : formedB x = true) : KeepOk x (need x) := by
  have E := marksL_end (formed_src hf) (formed_outs hf)
  refine ⟨ups_rising _ _, need_rng, fun o ho => ?_, fun i hi s hs => ?_⟩
  · have := formed_outs hf o ho
    exact mem_ups.2 ⟨this.1, this.2, E.todo o ho⟩
  · obtain ⟨h0, h1, h2⟩ := mem_ups.1 hi
    have hs' : s ∈ srcs x.nodes i := hs
    have hr := srcs_rng (formed_src hf) hs'
    exact mem_ups.2 ⟨hr.1, hr.2, E.shut i h0 h1 h2 s hs'⟩
theorem rising_lt {xs : List Int} (h : Rising xs) {i j : Nat} (hij : i < j) (hj : j < xs.length) : xs[i] < xs[j] := List.pairwise_iff_getElem.1 h i j (by omega) hj hij
theorem putBy_get : ∀ (b : List Int) (j : Nat) (r : List Int) (k : Nat), (∀ i ∈ r, 0 ≤ i) → Rising r → k < b.length →
    (putBy b j r).getD k 0 = (if h : (k : Int) ∈ r then (((j + r.findIdx (fun i => i == (k : Int)) : Nat) : Int)) else b.getD k 0)
  | b, j, [], k, _, _, _ => by simp [putBy]
  | b, j, i :: r, k, h0, hr, hk => by
    have hr' := List.pairwise_cons.1 hr
    have hi0 := h0 i (List.mem_cons_self ..)
    rw [putBy, putBy_get _ (j + 1) r k (fun a ha => h0 a (List.mem_cons_of_mem _ ha)) hr'.2 (by rw [List.length_set]; exact hk)]
    by_cases e : i = (k : Int)
    · have hn : ¬ (k : Int) ∈ r := fun hm => by have := hr'.1 _ hm; omega
      rw [dif_neg hn, dif_pos (by rw [← e]; exact List.mem_cons_self ..)]
      have e2 : i.toNat = k := by omega
      rw [e2, List.getD_eq_getElem?_getD, List.getElem?_set_self hk, List.findIdx_cons]
      have : (i == (k : Int)) = true := by simp [e]
      rw [this]
      simp
    · by_cases hm : (k : Int) ∈ r
      · rw [dif_pos hm, dif_pos (List.mem_cons_of_mem _ hm), List.findIdx_cons]
        have : (i == (k : Int)) = false := by simp [e]
        rw [this]
        simp only [cond_false]
        omega
      · rw [dif_neg hm, dif_neg (by simp only [List.mem_cons, not_or]; exact ⟨fun h => e h.symm, hm⟩), List.getD_eq_getElem?_getD, List.getElem?_set_ne (by omega), ← List.getD_eq_getElem?_getD]
theorem byL_at {keep : List Int} {n k : Nat} (hr : Rising keep) (hg : ∀ i ∈ keep, 0 ≤ i ∧ i < (n : Int)) (hk : k < keep.length) : (byL n keep).getD (keep[k]).toNat 0 = (k : Int) := by
  have hm := List.getElem_mem hk
  have hb := hg _ hm
  unfold byL
  rw [putBy_get _ 0 keep _ (fun i hi => (hg i hi).1) hr (by rw [List.length_replicate]; omega)]
  have e : ((keep[k].toNat : Nat) : Int) = keep[k] := by omega
  rw [e, dif_pos hm, Nat.zero_add]
  congr 1
  refine (List.findIdx_eq hk).2 ⟨by simp, fun j hj => ?_⟩
  have := rising_lt hr hj hk
  simp only [beq_eq_false_iff_ne]
  omega
/-- where the kept nodes lay -/
def keepPhi (keep : List Int) (k : Nat) : Nat := (keep.getD k 0).toNat
section
variable {x : PatchD} {keep : List Int}
theorem keep_phi {k : Nat} (hk : k < keep.length) (K : KeepOk x keep) : ((keepPhi keep k : Nat) : Int) = keep[k] ∧ keepPhi keep k < x.nodes.length := by
  have := K.rng _ (List.getElem_mem hk)
  unfold keepPhi
  rw [List.getD_eq_getElem?_getD, List.getElem?_eq_getElem hk]
  show ((keep[k].toNat : Nat) : Int) = keep[k] ∧ keep[k].toNat < _
  omega
theorem keep_len : (keepP x keep).nodes.length = keep.length := by unfold keepP; rw [List.length_map]
theorem keep_nd {k : Nat} (hk : k < keep.length) (K : KeepOk x keep) : ndI (keepP x keep).nodes (k : Int) = keepN x.nodes (byL x.nodes.length keep) keep[k] := by
  rw [ndI_at (by rw [keep_len]; exact hk)]
  unfold keepP
  rw [List.getElem_map]
theorem keepN_eq (by_ : List Int) (i : Int) : keepN x.nodes by_ i = { ndI x.nodes i with src := mapL by_ (ndI x.nodes i).src } := rfl
/-- the place of a kept node -/
theorem keep_back {i : Int} (hi : i ∈ keep) (K : KeepOk x keep) : 0 ≤ (byL x.nodes.length keep).getD i.toNat 0 ∧ (byL x.nodes.length keep).getD i.toNat 0 < (keep.length : Int) ∧ ((keepPhi keep ((byL x.nodes.length keep).getD i.toNat 0).toNat : Nat) : Int) = i := by
  obtain ⟨k, hk, rfl⟩ := List.mem_iff_getElem.1 hi
  rw [byL_at K.rise K.rng hk]
  refine ⟨by omega, by omega, ?_⟩
  rw [Int.toNat_natCast]
  exact (keep_phi hk K).1
theorem keep_emb (hf : formedB x = true) (K : KeepOk x keep) : Emb (keepP x keep) x (keepPhi keep) (fun _ => False) := by
  have nd : ∀ k, k < (keepP x keep).nodes.length → ndI (keepP x keep).nodes (k : Int) = { ndI x.nodes ((keepPhi keep k : Nat) : Int) with src := mapL (byL x.nodes.length keep) (ndI x.nodes ((keepPhi keep k : Nat) : Int)).src } := fun k hk => by
    rw [keep_len] at hk
    rw [keep_nd hk K, (keep_phi hk K).1]
    rfl
  refine ⟨fun k hk => (keep_phi (by rwa [keep_len] at hk) K).2, fun k hk h => h.elim, fun k hk _ xs ss => ?_, fun k hk _ xs ss y => ?_, fun k hk _ => ?_, fun k hk _ => ?_, fun k hk _ _ => ?_, fun k hk _ => ⟨?_, ?_⟩⟩
  · rw [nd k hk]; rfl
  · rw [nd k hk]; rfl
  · rw [nd k hk]; rfl
  · rw [nd k hk]
  · rw [nd k hk]
  · rw [nd k hk]
    have hk' : k < keep.length := by rwa [keep_len] at hk
    unfold mapL
    rw [List.map_map]
    conv => lhs; rw [← List.map_id (ndI x.nodes ((keepPhi keep k : Nat) : Int)).src]
    refine List.map_congr_left fun s hs => ?_
    have hm : s ∈ keep := K.shut _ (List.getElem_mem hk') s (by rw [← (keep_phi hk' K).1]; exact hs)
    exact (keep_back hm K).2.2.symm
  · intro s hs
    rw [nd k hk] at hs
    have hk' : k < keep.length := by rwa [keep_len] at hk
    obtain ⟨t, ht, rfl⟩ := List.mem_map.1 (show s ∈ mapL (byL x.nodes.length keep) (ndI x.nodes ((keepPhi keep k : Nat) : Int)).src from hs)
    have hm : t ∈ keep := K.shut _ (List.getElem_mem hk') t (by rw [← (keep_phi hk' K).1]; exact ht)
    have := keep_back hm K
    rw [keep_len]
    exact ⟨this.1, this.2.1⟩
theorem keep_formed (hf : formedB x = true) (K : KeepOk x keep) : formedB (keepP x keep) = true := by
  have P := formed_iff.1 hf
  have hkl : keep.length ≤ x.nodes.length := rising_len (a := 0) K.rise fun i hi => by have := K.rng i hi; omega
  refine formed_iff.2 ⟨P.1, P.2.1, by rw [keep_len]; omega, by show (mapL _ _).length ≤ 4; rw [mapL_length]; exact P.2.2.2.1, fun y hy => ?_, fun y hy => ?_⟩
  · obtain ⟨i, hi, rfl⟩ := List.mem_map.1 (show y ∈ keep.map (keepN x.nodes (byL x.nodes.length keep)) from hy)
    have hb := K.rng i hi
    obtain ⟨k, rfl⟩ := Int.eq_ofNat_of_zero_le hb.1
    obtain ⟨a, b, c, d, e, f, g⟩ := ndB_parts.1 (formed_in hf (k := k) (by omega))
    have hsrc : ∀ y ∈ mapL (byL x.nodes.length keep) (ndI x.nodes (k : Int)).src, 0 ≤ y ∧ y < (keep.length : Int) := fun y hy => by
      unfold mapL at hy
      obtain ⟨s, hs, rfl⟩ := List.mem_map.1 hy
      have := keep_back (K.shut _ hi s hs) K
      exact ⟨this.1, this.2.1⟩
    rw [keepN_eq, keep_len]
    exact ndB_parts.2 ⟨a, b, by show ((mapL _ _).length : Int) = _; rw [mapL_length]; exact c, fun y hy => by have := hsrc y hy; have := P.2.2.1; omega, e, f, hsrc⟩
  · obtain ⟨s, hs, rfl⟩ := List.mem_map.1 (show y ∈ x.outputs.map fun i => (byL x.nodes.length keep).getD i.toNat 0 from hy)
    have := keep_back (K.outs s hs) K
    rw [keep_len]
    exact ⟨this.1, this.2.1⟩
theorem keep_okB (ok : okB x = true) (K : KeepOk x keep) : okB (keepP x keep) = true := by
  have hf := (okR_len ok).1
  obtain ⟨ρ, r1, r2⟩ := okR_ranked ok
  refine rankedR_okB (ρ := fun j => ρ (keepPhi keep j.toNat : Nat)) (keep_formed hf K) fun j h0 hj s hs => ?_
  obtain ⟨k, rfl⟩ := Int.eq_ofNat_of_zero_le h0
  rw [keep_len] at hj
  have hk : k < keep.length := by omega
  rw [keep_nd hk K, keepN_eq] at hs
  have hw : ∃ t ∈ waits (ndI x.nodes keep[k]), s = (byL x.nodes.length keep).getD t.toNat 0 := by
    unfold waits at hs ⊢
    show ∃ t ∈ (if (ndI x.nodes keep[k]).kind = 6 then [] else (ndI x.nodes keep[k]).src), _
    change s ∈ (if (ndI x.nodes keep[k]).kind = 6 then [] else mapL (byL x.nodes.length keep) (ndI x.nodes keep[k]).src) at hs
    split at hs
    · simp at hs
    · rename_i h6
      rw [if_neg h6]
      unfold mapL at hs
      obtain ⟨t, ht, rfl⟩ := List.mem_map.1 hs
      exact ⟨t, ht, rfl⟩
  obtain ⟨t, ht, rfl⟩ := hw
  have hm := K.shut _ (List.getElem_mem hk) t (waits_src ht)
  have hb := keep_back hm K
  dsimp only
  rw [Int.toNat_natCast, hb.2.2, (keep_phi hk K).1]
  have := K.rng _ (List.getElem_mem hk)
  exact r1 _ this.1 this.2 t ht
/-- the kept nodes render as all do -/
theorem keep_render (ok : okB x = true) (K : KeepOk x keep) (ins : List (List Int)) (n : Nat) : renL (keepP x keep) ins n = renL x ins n := by
  have R := (keep_emb (okR_len ok).1 K).run (keep_okB ok K) ok (ins' := ins) (ins := ins) (n := n) (fun _ _ _ _ => rfl) (fun _ _ _ _ h => h.elim)
  unfold renL
  show (mapL (byL x.nodes.length keep) x.outputs).map _ = _
  unfold mapL
  rw [List.map_map]
  refine List.map_congr_left fun o ho => ?_
  refine List.map_congr_left fun i hi => ?_
  have hi' : i < n := by simpa using hi
  have hb := keep_back (K.outs o ho) K
  show (vsI (keepP x keep) ins i).getD ((byL x.nodes.length keep).getD o.toNat 0).toNat 0 = _
  rw [(R i hi').2]
  unfold atL
  rw [getD_map_range _ _ (by rw [keep_len]; omega)]
  congr 1
  omega
end
theorem trim_okB {x : PatchD} (ok : okB x = true) : okB (trimP x) = true := keep_okB ok (need_keep (okR_len ok).1)
theorem trim_render {x : PatchD} (ok : okB x = true) (ins : List (List Int)) (n : Nat) : renL (trimP x) ins n = renL x ins n := keep_render ok (need_keep (okR_len ok).1) ins n
theorem trim_len (x : PatchD) : (trimP x).nodes.length = (need x).length := keep_len
/-! ### the order -/
theorem order_rng {x : PatchD} (ok : okB x = true) : ∀ o ∈ orderL x.nodes, 0 ≤ o ∧ o < (x.nodes.length : Int) :=
  (solP_ord (x := x) (st := []) (fr := []) x.nodes.length [] ⟨by simp, by simp, by simp⟩).1
end Go.Proofs.YtcfhcmgmkhfjjaaGreat

namespace Go.Proofs.YtcfhcmgmkhfjjaaGreat
open Go.ChangeShapes Go.WideShapes Go.ChangeAt Go.RowKit Go.Sort
set_option linter.unusedVariables false

/-- what a node waits for stands ahead of it -/
def PrefOk (nodes : List NodeD) (out : List Int) : Prop := ∀ k (h : k < out.length), ∀ s ∈ waits (ndI nodes out[k]), s ∈ out.take k
theorem prefOk_snoc {nodes : List NodeD} {out : List Int} {i : Nat} (h : PrefOk nodes out) (hr : rdy nodes out i = true) : PrefOk nodes (out ++ [(i : Int)]) := fun k hk s hs => by
  unfold rdy at hr
  simp only [Bool.and_eq_true, List.all_eq_true] at hr
  by_cases hlt : k < out.length
  · rw [List.getElem_append_left hlt] at hs
    rw [List.take_append_of_le_length (by omega)]
    exact h k hlt s hs
  · rw [List.length_append, List.length_singleton] at hk
    obtain rfl : k = out.length := by omega
    rw [List.getElem_append_right (by omega)] at hs
    simp only [Nat.sub_self, List.getElem_cons_zero] at hs
    rw [List.take_append_of_le_length (Nat.le_refl _), List.take_length]
    have := hr.2 s (by unfold ndI at hs; rw [Int.toNat_natCast] at hs; exact hs)
    simpa using this
theorem prefOk_ord {nodes : List NodeD} : ∀ (f : Nat) (out : List Int), PrefOk nodes out → PrefOk nodes (ord nodes f out)
  | 0, _, h => h
  | f + 1, out, h => by
    rcases e : nxt nodes out 0 nodes.length with _ | i
    · rw [ord_none e]; exact h
    · rw [ord_some e]
      exact prefOk_ord f _ (prefOk_snoc h (nxt_some e).2.2)
theorem order_pref (nodes : List NodeD) : PrefOk nodes (orderL nodes) := prefOk_ord _ _ fun k h => by simp at h
/-- the places after k steps -/
def plK (n : Nat) (out : List Int) : Nat → List Int
  | 0 => List.replicate n 0
  | k + 1 => (plK n out k).set (out.getD k 0).toNat ((k : Int) + 1)
theorem plK_len (n : Nat) (out : List Int) : ∀ k, (plK n out k).length = n
  | 0 => by simp [plK]
  | k + 1 => by rw [plK, List.length_set, plK_len]
theorem nodup_ne {xs : List Int} (h : xs.Nodup) {i j : Nat} (hi : i < xs.length) (hj : j < xs.length) (hij : i ≠ j) : xs[i] ≠ xs[j] := by
  rcases Nat.lt_or_ge i j with h1 | h1
  · exact List.pairwise_iff_getElem.1 h i j hi hj h1
  · exact fun e => List.pairwise_iff_getElem.1 h j i hj hi (by omega) e.symm
theorem plK_new {n : Nat} {out : List Int} (hn : out.Nodup) (hr : ∀ o ∈ out, 0 ≤ o ∧ o < (n : Int)) : ∀ (k j : Nat) (hj : j < out.length), k ≤ j → (plK n out k).getD (out[j]).toNat 0 = 0
  | 0, j, hj, _ => by
    unfold plK
    rw [List.getD_eq_getElem?_getD, List.getElem?_replicate]
    split <;> rfl
  | k + 1, j, hj, hk => by
    have h1 := nodup_ne hn (i := k) (j := j) (by omega) hj (by omega)
    have a := hr _ (List.getElem_mem (show k < out.length by omega))
    have b := hr _ (List.getElem_mem hj)
    rw [plK, List.getD_eq_getElem?_getD (l := out), List.getElem?_eq_getElem (show k < out.length by omega)]
    show ((plK n out k).set (out[k]).toNat ((k : Int) + 1)).getD _ 0 = 0
    rw [List.getD_eq_getElem?_getD, List.getElem?_set_ne (by omega), ← List.getD_eq_getElem?_getD]
    exact plK_new hn hr k j hj (by omega)
theorem plK_old {n : Nat} {out : List Int} (hn : out.Nodup) (hr : ∀ o ∈ out, 0 ≤ o ∧ o < (n : Int)) : ∀ (k j : Nat) (hj : j < out.length), j < k → k ≤ out.length → (plK n out k).getD (out[j]).toNat 0 = (j : Int) + 1
  | 0, j, hj, h, _ => by omega
  | k + 1, j, hj, h, hk => by
    have a := hr _ (List.getElem_mem (show k < out.length by omega))
    have b := hr _ (List.getElem_mem hj)
    rw [plK, List.getD_eq_getElem?_getD (l := out), List.getElem?_eq_getElem (show k < out.length by omega)]
    show ((plK n out k).set (out[k]).toNat ((k : Int) + 1)).getD _ 0 = _
    by_cases e : j = k
    · subst e
      rw [List.getD_eq_getElem?_getD, List.getElem?_set_self (by rw [plK_len]; omega)]
      rfl
    · have h1 := nodup_ne hn (i := k) (j := j) (by omega) hj (by omega)
      rw [List.getD_eq_getElem?_getD, List.getElem?_set_ne (by omega), ← List.getD_eq_getElem?_getD]
      exact plK_old hn hr k j hj (by omega) (by omega)
/-- a node's place is behind those of the nodes that it waits for -/
theorem place_lt {x : PatchD} (ok : okB x = true) {i : Nat} (hi : i < x.nodes.length) {s : Int} (hs : s ∈ waits (ndI x.nodes (i : Int))) :
    (plK x.nodes.length (orderL x.nodes) x.nodes.length).getD s.toNat 0 < (plK x.nodes.length (orderL x.nodes) x.nodes.length).getD i 0 := by
  have hl := (okR_len ok).2.1
  obtain ⟨a, ha, e⟩ := List.mem_iff_getElem.1 (okR_all ok hi)
  have hm := order_pref x.nodes a ha s (by rw [e]; exact hs)
  obtain ⟨b, hb, e2⟩ := List.mem_iff_getElem.1 hm
  rw [List.length_take] at hb
  rw [List.getElem_take] at e2
  have h1 := plK_old (orderL_nodup x.nodes) (order_rng ok) x.nodes.length a ha (by omega) (by omega)
  have h2 := plK_old (orderL_nodup x.nodes) (order_rng ok) x.nodes.length b (by omega) (by omega) (by omega)
  rw [e, Int.toNat_natCast] at h1
  rw [e2] at h2
  rw [h1, h2]
  omega
end Go.Proofs.YtcfhcmgmkhfjjaaGreat

namespace Go.Proofs.YtcfhcmgmkhfjjaaGreat
open Go.ChangeShapes Go.WideShapes Go.ChangeAt Go.RowKit Go.Sort
set_option linter.unusedVariables false

/-! ### two patches with the same values -/
theorem sim_run {x y : PatchD} (oky : okB y = true) {ins : List (List Int)} (J : Nat → List (List Int) → Prop) (h0 : J 0 (y.nodes.map startL))
    (hs : ∀ i st', J i st' → Sol y st' (frN ins i) (vsI x ins i) ∧ J (i + 1) (stN y st' (frN ins i) (vsI x ins i))) : ∀ i, J i (stI y ins i) ∧ vsI y ins i = vsI x ins i
  | 0 => ⟨h0, sol_one oky (vsN_sol oky _ _) (hs 0 _ h0).1⟩
  | i + 1 => by
    obtain ⟨hj, hv⟩ := sim_run oky J h0 hs i
    have h1 := (hs i _ hj).2
    rw [← hv] at h1
    exact ⟨h1, sol_one oky (vsN_sol oky _ _) (hs (i + 1) _ h1).1⟩
theorem sim_render {x y : PatchD} {ins : List (List Int)} (hv : ∀ i, vsI y ins i = vsI x ins i) {f : Int → Int} (ho : y.outputs = x.outputs.map f) (hf : ∀ i, ∀ o ∈ x.outputs, (vsI x ins i).getD (f o).toNat 0 = (vsI x ins i).getD o.toNat 0) (n : Nat) : renL y ins n = renL x ins n := by
  unfold renL
  rw [ho, List.map_map]
  refine List.map_congr_left fun o hom => ?_
  refine List.map_congr_left fun i _ => ?_
  rw [hv i]
  exact hf i o hom
section
variable {x : PatchD} {ins : List (List Int)}
/-- a node's value in a frame -/
theorem val_eq (ok : okB x = true) (i : Nat) {k : Nat} (hk : k < x.nodes.length) : (vsI x ins i).getD k 0 = outP (ndI x.nodes k) x.tables (inF (ndI x.nodes k) (frN ins i) (vsI x ins i)) ((stI x ins i).getD k []) := (vsN_sol ok _ _).eq k hk
theorem st_next (i : Nat) {k : Nat} (hk : k < x.nodes.length) : (stI x ins (i + 1)).getD k [] = nextP (ndI x.nodes k) (inF (ndI x.nodes k) (frN ins i) (vsI x ins i)) ((stI x ins i).getD k []) ((vsI x ins i).getD k 0) := stN_get hk
/-- a node is replaced -/
theorem set_render {c : Nat} {n : NodeD} (ok : okB x = true) (oky : okB (setN x c n) = true) (hc : c < x.nodes.length) (Q : Nat → List Int → Prop) (h0 : Q 0 (startL n))
    (hs : ∀ i s, Q i s → outP n x.tables (inF n (frN ins i) (vsI x ins i)) s = (vsI x ins i).getD c 0 ∧ Q (i + 1) (nextP n (inF n (frN ins i) (vsI x ins i)) s ((vsI x ins i).getD c 0))) (m : Nat) : renL (setN x c n) ins m = renL x ins m := by
  have hl : (setN x c n).nodes.length = x.nodes.length := by unfold setN; rw [List.length_set]
  have nc : ndI (setN x c n).nodes c = n := by
    unfold ndI setN
    rw [Int.toNat_natCast, List.getD_eq_getElem?_getD, List.getElem?_set_self hc]; rfl
  have nk : ∀ k : Nat, k ≠ c → ndI (setN x c n).nodes k = ndI x.nodes k := fun k hk => by
    unfold ndI setN
    rw [Int.toNat_natCast, Int.toNat_natCast, List.getD_eq_getElem?_getD, List.getElem?_set_ne (Ne.symm hk), ← List.getD_eq_getElem?_getD]
  have R := sim_run (x := x) (y := setN x c n) (ins := ins) oky (fun i st' => (∀ k, k < x.nodes.length → k ≠ c → st'.getD k [] = (stI x ins i).getD k []) ∧ Q i (st'.getD c [])) ?_ ?_
  · exact sim_render (fun i => (R i).2) (f := id) (by rw [List.map_id]; rfl) (fun _ _ _ => rfl) m
  · have e : ∀ k, k < x.nodes.length → ((setN x c n).nodes.map startL).getD k [] = startL (ndI (setN x c n).nodes k) := fun k hk => by
      rw [ndI_at (by rw [hl]; exact hk), List.getD_eq_getElem?_getD, List.getElem?_map, List.getElem?_eq_getElem (by rw [hl]; exact hk)]; rfl
    refine ⟨fun k hk hkc => ?_, ?_⟩
    · rw [e k hk, nk k hkc]; exact (stI_zero hk).symm
    · rw [e c hc, nc]; exact h0
  · intro i st' ⟨h1, h2⟩
    obtain ⟨h3, h4⟩ := hs i _ h2
    refine ⟨⟨by rw [vsI_len, hl], fun k hk => ?_⟩, fun k hk hkc => ?_, ?_⟩
    · rw [hl] at hk
      by_cases hkc : k = c
      · subst hkc
        rw [nc]; exact h3.symm
      · rw [nk k hkc, h1 k hk hkc]; exact val_eq ok i hk
    · rw [stN_get (by rw [hl]; exact hk), nk k hkc, h1 k hk hkc]; exact (st_next i hk).symm
    · rw [stN_get (by rw [hl]; exact hc), nc]; exact h4
theorem swap_get (vs : List Int) {c b : Int} (h : vs.getD b.toNat 0 = vs.getD c.toNat 0) (xs : List Int) : mapL vs (swapL c b xs) = mapL vs xs := by
  unfold mapL swapL
  rw [List.map_map]
  refine List.map_congr_left fun s _ => ?_
  show vs.getD (if s = c then b else s).toNat 0 = _
  split
  · rename_i e; rw [e, h]
  · rfl
/-- a node's users turn to another node of the same value -/
theorem repl_render {c b : Int} (ok : okB x = true) (oky : okB (replP x c b) = true) (hv : ∀ i, (vsI x ins i).getD b.toNat 0 = (vsI x ins i).getD c.toNat 0) (m : Nat) : renL (replP x c b) ins m = renL x ins m := by
  have hl : (replP x c b).nodes.length = x.nodes.length := by unfold replP; rw [List.length_map]
  have nk : ∀ k : Nat, k < x.nodes.length → ndI (replP x c b).nodes k = { ndI x.nodes k with src := swapL c b (ndI x.nodes k).src } := fun k hk => by
    rw [ndI_at (by rw [hl]; exact hk), ndI_at hk]
    unfold replP
    rw [List.getElem_map]
  have hin : ∀ i (k : Nat), k < x.nodes.length → inF (ndI (replP x c b).nodes k) (frN ins i) (vsI x ins i) = inF (ndI x.nodes k) (frN ins i) (vsI x ins i) := fun i k hk => by
    rw [nk k hk]
    unfold inF
    dsimp only
    rw [swap_get _ (hv i)]
  have R := sim_run (x := x) (y := replP x c b) (ins := ins) oky (fun i st' => ∀ k, k < x.nodes.length → st'.getD k [] = (stI x ins i).getD k []) ?_ ?_
  · refine sim_render (fun i => (R i).2) (f := fun s => if s = c then b else s) rfl (fun i o _ => ?_) m
    split
    · rename_i e; rw [e, hv]
    · rfl
  · intro k hk
    rw [List.getD_eq_getElem?_getD, List.getElem?_map, List.getElem?_eq_getElem (by rw [hl]; exact hk)]
    show startL (replP x c b).nodes[k] = _
    rw [← ndI_at (by rw [hl]; exact hk), nk k hk, stI_zero hk]
    rfl
  · intro i st' h1
    refine ⟨⟨by rw [vsI_len, hl], fun k hk => ?_⟩, fun k hk => ?_⟩
    · rw [hl] at hk
      rw [hin i k hk, h1 k hk, val_eq ok i hk, nk k hk]
      rfl
    · rw [stN_get (by rw [hl]; exact hk), hin i k hk, h1 k hk, st_next i hk, nk k hk]
      rfl
/-! ### what a node is given -/
theorem ndI_nodeAt (nodes : List NodeD) (k : Int) : nodeAt nodes k = ndI nodes k := rfl
theorem inF_get {n : NodeD} (hk : n.kind ≠ 1) (fr vs : List Int) {j : Nat} (hj : j < n.src.length) : (inF n fr vs).getD j 0 = vs.getD (n.src.getD j 0).toNat 0 := by
  unfold inF
  rw [if_neg hk]
  unfold mapL
  rw [List.getD_eq_getElem?_getD, List.getElem?_map, List.getElem?_eq_getElem hj, List.getD_eq_getElem?_getD (l := n.src), List.getElem?_eq_getElem hj]
  rfl
/-- a constant's value -/
theorem const_val (ok : okB x = true) (i : Nat) {k : Int} (h0 : 0 ≤ k) (h1 : k < (x.nodes.length : Int)) (hc : isC (nodeAt x.nodes k) = true) : (vsI x ins i).getD k.toNat 0 = (nodeAt x.nodes k).a := by
  obtain ⟨m, rfl⟩ := Int.eq_ofNat_of_zero_le h0
  have h2 : (ndI x.nodes (m : Int)).kind = 2 := by unfold isC at hc; rw [beq_iff_eq] at hc; exact hc
  rw [Int.toNat_natCast, val_eq ok i (by omega)]
  unfold outP
  rw [h2]
  rfl
theorem smp_val (hf : formedB x = true) (hi : InsOk x ins) (i k : Nat) : smp ((vsI x ins i).getD k 0) = (vsI x ins i).getD k 0 := smp_id (smps_getD (vsI_smp hf hi i) k)
theorem zero_val (ok : okB x = true) (i : Nat) {k : Int} (h0 : 0 ≤ k) (h1 : k < (x.nodes.length : Int)) {a : Int} (hc : isCO (nodeAt x.nodes k) a = true) : (vsI x ins i).getD k.toNat 0 = a := by
  unfold isCO at hc
  rw [Bool.and_eq_true, beq_iff_eq, beq_iff_eq] at hc
  rw [const_val ok i h0 h1 (by unfold isC; rw [beq_iff_eq]; exact hc.1)]
  exact hc.2
/-- node c's arity -/
theorem ar_of (hf : formedB x = true) {c : Nat} (hc : c < x.nodes.length) {k : Int} (hk : (nodeAt x.nodes (c : Int)).kind = k) {n : Nat} (hn : kAr (k - 1).toNat = (n : Int)) : (nodeAt x.nodes (c : Int)).src.length = n := by
  have := (nodeB_ar (nodeAt_ok hf (i := (c : Int)) (by omega) (by omega))).2
  rw [hk, hn] at this
  omega
/-- the value of a node that has inputs -/
theorem val_K (ok : okB x = true) (i : Nat) {c : Nat} (hc : c < x.nodes.length) {k : Int} (hk : (nodeAt x.nodes (c : Int)).kind = k) : (vsI x ins i).getD c 0 = outK k.toNat (nodeAt x.nodes (c : Int)).a x.tables (inF (nodeAt x.nodes (c : Int)) (frN ins i) (vsI x ins i)) ((stI x ins i).getD c []) := by
  rw [val_eq ok i hc]
  unfold outP
  rw [← hk]
  rfl
theorem xs_K (i : Nat) {c : Nat} (h1 : (nodeAt x.nodes (c : Int)).kind ≠ 1) {j : Nat} (hj : j < (nodeAt x.nodes (c : Int)).src.length) : (inF (nodeAt x.nodes (c : Int)) (frN ins i) (vsI x ins i)).getD j 0 = (vsI x ins i).getD (inp x (c : Int) j).toNat 0 := inF_get h1 _ _ hj
theorem gain_out (a b : Int) (t : Int) (tb : List (List Int)) (fr vs ss : List Int) : outP ⟨5, a, b, [t]⟩ tb (inF ⟨5, a, b, [t]⟩ fr vs) ss = smp (a * vs.getD t.toNat 0) := rfl
theorem const_out (a b : Int) (tb : List (List Int)) (xs ss : List Int) : outP ⟨2, a, b, []⟩ tb xs ss = a := rfl
/-! ### the rules -/
theorem out_fold {k : Nat} (hk : (k : Int) ∈ foldL) (A : Int) (tb : List (List Int)) (xs ss ss' : List Int) : outK k A tb xs ss = outK k A tb xs ss' := by
  unfold foldL at hk
  simp only [List.mem_cons, List.not_mem_nil, or_false] at hk
  rcases hk with h | h | h | h | h | h | h | h <;> (obtain rfl : k = _ := Int.ofNat.inj h) <;> rfl
theorem rule1_val (ok : okB x = true) {c : Nat} (hc : c < x.nodes.length) (h : constB x (c : Int) = true) (i : Nat) : constV x (c : Int) = (vsI x ins i).getD c 0 := by
  have hf := (okR_len ok).1
  unfold constB at h
  rw [Bool.and_eq_true, List.all_eq_true] at h
  obtain ⟨h1, h2⟩ := h
  have hm : (nodeAt x.nodes (c : Int)).kind ∈ foldL := by simpa using h1
  have h1' : (nodeAt x.nodes (c : Int)).kind ≠ 1 := fun e => by rw [e] at hm; simp [foldL] at hm
  have hp : 0 ≤ (nodeAt x.nodes (c : Int)).kind := by
    unfold foldL at hm
    simp only [List.mem_cons, List.not_mem_nil, or_false] at hm
    omega
  rw [val_K ok i hc rfl]
  have hin : inF (nodeAt x.nodes (c : Int)) (frN ins i) (vsI x ins i) = constIn x (c : Int) := by
    unfold inF constIn
    rw [if_neg h1']
    unfold mapL
    refine List.map_congr_left fun s hs => ?_
    have := nodeAt_src hf (i := (c : Int)) (by omega) (by omega) s hs
    exact const_val ok i this.1 this.2 (h2 s hs)
  rw [hin]
  unfold constV outP
  exact out_fold (by rw [Int.toNat_of_nonneg hp]; exact hm) _ _ _ _ _
theorem zero_list {ss : List Int} (h : ∀ z ∈ ss, z = 0) : ss.getD 0 0 = 0 := by
  cases ss with
  | nil => rfl
  | cons a r => exact h a (List.mem_cons_self ..)
theorem smp_zero : smp 0 = 0 := by decide
/-- the states of a node that gets zeros only -/
theorem zero_states (ok : okB x = true) {c : Nat} (hc : c < x.nodes.length) {k : Int} (hk : (nodeAt x.nodes (c : Int)).kind = k) (hk4 : k = 6 ∨ k = 7 ∨ k = 8 ∨ k = 17) (hz : isCO (frm x (c : Int) 0) 0 = true) :
    ∀ i, (∀ z ∈ (stI x ins i).getD c [], z = 0) ∧ (vsI x ins i).getD c 0 = 0 := by
  have hf := (okR_len ok).1
  have hl : (nodeAt x.nodes (c : Int)).src.length = 1 := by
    rcases hk4 with rfl | rfl | rfl | rfl <;> exact ar_of hf hc hk (by decide)
  have h1 : (nodeAt x.nodes (c : Int)).kind ≠ 1 := by omega
  have hr := inp_rng hf (i := (c : Int)) (by omega) (by omega) (k := 0) (by omega)
  have hx : ∀ i, (inF (nodeAt x.nodes (c : Int)) (frN ins i) (vsI x ins i)).getD 0 0 = 0 := fun i => by
    rw [xs_K i h1 (by omega)]; exact zero_val ok i hr.1 hr.2 hz
  have hval : ∀ i, (∀ z ∈ (stI x ins i).getD c [], z = 0) → (vsI x ins i).getD c 0 = 0 := fun i hs => by
    rw [val_K ok i hc hk]
    rcases hk4 with rfl | rfl | rfl | rfl
    · exact zero_list hs
    · show smp (_ + _) = 0
      rw [zero_list hs, hx]; exact smp_zero
    · show smp (_ - _) = 0
      rw [zero_list hs, hx]; exact smp_zero
    · show smp (_ + smp (_ * _)) = 0
      rw [zero_list hs, hx, Int.mul_zero, smp_zero]; exact smp_zero
  intro i
  induction i with
  | zero =>
    have h0 : ∀ z ∈ (stI x ins 0).getD c [], z = 0 := by
      rw [stI_zero hc]
      unfold startL
      have hk' : (ndI x.nodes (c : Int)).kind = k := hk
      rw [hk']
      intro z hz
      rcases hk4 with rfl | rfl | rfl | rfl
      · exact (List.mem_replicate.1 hz).2
      · simpa using hz
      · simpa using hz
      · exact (List.mem_replicate.1 hz).2
    exact ⟨h0, hval 0 h0⟩
  | succ i ih =>
    have h0 : ∀ z ∈ (stI x ins (i + 1)).getD c [], z = 0 := by
      rw [st_next i hc]
      intro z hz
      have hz' : z ∈ nextK k.toNat (inF (nodeAt x.nodes (c : Int)) (frN ins i) (vsI x ins i)) ((stI x ins i).getD c []) ((vsI x ins i).getD c 0) := by
        rw [← hk]; exact hz
      rcases hk4 with rfl | rfl | rfl | rfl
      · rcases List.mem_append.1 hz' with h | h
        · exact ih.1 z (List.mem_of_mem_drop h)
        · rw [List.mem_singleton.1 h]; exact hx i
      · rw [List.mem_singleton.1 hz']; exact ih.2
      · rw [List.mem_singleton.1 hz']; exact hx i
      · rcases List.mem_append.1 hz' with h | h
        · exact ih.1 z (List.mem_of_mem_drop h)
        · rw [List.mem_singleton.1 h]; exact ih.2
    exact ⟨h0, hval (i + 1) h0⟩
theorem rule2_val (ok : okB x = true) {c : Nat} (hc : c < x.nodes.length) (h : zeroB x (c : Int) = true) (i : Nat) : (vsI x ins i).getD c 0 = 0 := by
  have hf := (okR_len ok).1
  unfold zeroB zeroK at h
  split at h
  · rename_i hk
    have ha : (nodeAt x.nodes (c : Int)).a = 0 := by simpa using h
    rcases hk with hk | hk
    · rw [val_K ok i hc hk, ha]
      show smp (0 * _) = 0
      rw [Int.zero_mul]; exact smp_zero
    · rw [val_K ok i hc hk, ha]
      show max (-0) (min _ 0) = (0 : Int)
      omega
  · split at h
    · rename_i hk
      have hl := ar_of hf hc hk (n := 2) (by decide)
      have e : inp x (c : Int) 0 = inp x (c : Int) 1 := by simpa using h
      rw [val_K ok i hc hk]
      show smp (_ - _) = 0
      rw [xs_K i (by omega) (by omega), xs_K i (by omega) (by omega), e, Int.sub_self]
      exact smp_zero
    · split at h
      · rename_i hk
        exact (zero_states ok hc rfl hk h i).2
      · cases h
theorem rule3_val (ok : okB x = true) (hi : InsOk x ins) {c : Nat} (hc : c < x.nodes.length) (h : 0 ≤ sameI x (c : Int)) (i : Nat) : (vsI x ins i).getD (sameI x (c : Int)).toNat 0 = (vsI x ins i).getD c 0 := by
  have hf := (okR_len ok).1
  have rng : ∀ j, j < (nodeAt x.nodes (c : Int)).src.length → 0 ≤ inp x (c : Int) j ∧ inp x (c : Int) j < (x.nodes.length : Int) := fun j hj => inp_rng hf (by omega) (by omega) hj
  unfold sameI sameK at h ⊢
  by_cases k5 : (nodeAt x.nodes (c : Int)).kind = 5
  · have hl := ar_of hf hc k5 (n := 1) (by decide)
    rw [if_pos k5] at h ⊢
    split at h
    · rename_i ha
      rw [if_pos ha, val_K ok i hc k5, ha]
      show _ = smp (1 * _)
      rw [xs_K i (by omega) (by omega), Int.one_mul, smp_val hf hi]
    · omega
  rw [if_neg k5] at h ⊢
  by_cases k10 : (nodeAt x.nodes (c : Int)).kind = 10
  · have hl := ar_of hf hc k10 (n := 1) (by decide)
    rw [if_pos k10] at h ⊢
    split at h
    · rename_i ha
      rw [if_pos ha, val_K ok i hc k10, ha]
      show _ = _ / 2 ^ (0 : Int).toNat
      rw [xs_K i (by omega) (by omega)]
      simp
    · omega
  rw [if_neg k10] at h ⊢
  by_cases k3 : (nodeAt x.nodes (c : Int)).kind = 3
  · have hl := ar_of hf hc k3 (n := 2) (by decide)
    rw [if_pos k3] at h ⊢
    have r0 := rng 0 (by omega)
    have r1 := rng 1 (by omega)
    have hv : (vsI x ins i).getD c 0 = smp ((vsI x ins i).getD (inp x (c : Int) 0).toNat 0 + (vsI x ins i).getD (inp x (c : Int) 1).toNat 0) := by
      rw [val_K ok i hc k3]
      show smp (_ + _) = _
      rw [xs_K i (by omega) (by omega), xs_K i (by omega) (by omega)]
    split at h
    · rename_i hz
      rw [if_pos hz, hv, zero_val ok i r0.1 r0.2 hz, Int.zero_add, smp_val hf hi]
    · rename_i hz
      rw [if_neg hz]
      split at h
      · rename_i hz2
        rw [if_pos hz2, hv, zero_val ok i r1.1 r1.2 hz2, Int.add_zero, smp_val hf hi]
      · omega
  rw [if_neg k3] at h ⊢
  by_cases k4 : (nodeAt x.nodes (c : Int)).kind = 4
  · have hl := ar_of hf hc k4 (n := 2) (by decide)
    rw [if_pos k4] at h ⊢
    have r1 := rng 1 (by omega)
    split at h
    · rename_i hz
      rw [if_pos hz, val_K ok i hc k4]
      show _ = smp (_ - _)
      rw [xs_K i (by omega) (by omega), xs_K i (by omega) (by omega), zero_val ok i r1.1 r1.2 hz, Int.sub_zero, smp_val hf hi]
    · omega
  rw [if_neg k4] at h ⊢
  by_cases k16 : (nodeAt x.nodes (c : Int)).kind = 16
  · have hl := ar_of hf hc k16 (n := 2) (by decide)
    rw [if_pos k16] at h ⊢
    have r1 := rng 1 (by omega)
    split at h
    · rename_i hz
      rw [if_pos hz, val_K ok i hc k16]
      show _ = if 0 < _ then _ else _
      rw [xs_K i (by omega) (by omega), xs_K i (by omega) (by omega), const_val ok i r1.1 r1.2 hz.1, if_pos (show 0 < (nodeAt x.nodes (inp x (c : Int) 1)).a from hz.2)]
    · omega
  rw [if_neg k16] at h ⊢
  by_cases k15 : (nodeAt x.nodes (c : Int)).kind = 15
  · have hl := ar_of hf hc k15 (n := 3) (by decide)
    rw [if_pos k15] at h ⊢
    have r0 := rng 0 (by omega)
    have hv : (vsI x ins i).getD c 0 = if 0 ≤ (vsI x ins i).getD (inp x (c : Int) 0).toNat 0 then (vsI x ins i).getD (inp x (c : Int) 1).toNat 0 else (vsI x ins i).getD (inp x (c : Int) 2).toNat 0 := by
      rw [val_K ok i hc k15]
      show (if 0 ≤ _ then _ else _) = _
      rw [xs_K i (by omega) (by omega), xs_K i (by omega) (by omega), xs_K i (by omega) (by omega)]
    split at h
    · rename_i hz
      rw [if_pos hz, hv]
      rcases hz with hz | hz
      · rw [hz]; split <;> rfl
      · rw [const_val ok i r0.1 r0.2 hz.1, if_pos (show 0 ≤ (nodeAt x.nodes (inp x (c : Int) 0)).a from hz.2)]
    · rename_i hz
      rw [if_neg hz]
      split at h
      · rename_i hz2
        have hz2' : isC (nodeAt x.nodes (inp x (c : Int) 0)) = true := hz2
        rw [if_pos hz2, hv, const_val ok i r0.1 r0.2 hz2', if_neg (show ¬ 0 ≤ (nodeAt x.nodes (inp x (c : Int) 0)).a from fun h => hz (.inr ⟨hz2, h⟩))]
      · omega
  rw [if_neg k15] at h
  omega
theorem rule4_val (ok : okB x = true) {c : Nat} (hc : c < x.nodes.length) (h : factB x (c : Int) = true) (i : Nat) (ss : List Int) : outP (factN x (c : Int)) x.tables (inF (factN x (c : Int)) (frN ins i) (vsI x ins i)) ss = (vsI x ins i).getD c 0 := by
  have hf := (okR_len ok).1
  have rng : ∀ j, j < (nodeAt x.nodes (c : Int)).src.length → 0 ≤ inp x (c : Int) j ∧ inp x (c : Int) j < (x.nodes.length : Int) := fun j hj => inp_rng hf (by omega) (by omega) hj
  unfold factB at h
  rw [Bool.and_eq_true, beq_iff_eq, Bool.or_eq_true] at h
  obtain ⟨k9, h2⟩ := h
  have hl := ar_of hf hc k9 (n := 2) (by decide)
  have r0 := rng 0 (by omega)
  have r1 := rng 1 (by omega)
  have hv : (vsI x ins i).getD c 0 = smp ((vsI x ins i).getD (inp x (c : Int) 0).toNat 0 * (vsI x ins i).getD (inp x (c : Int) 1).toNat 0) := by
    rw [val_K ok i hc k9]
    show smp (_ * _) = _
    rw [xs_K i (by omega) (by omega), xs_K i (by omega) (by omega)]
  unfold factN
  split
  · rename_i h0
    rw [gain_out, hv, const_val ok i r0.1 r0.2 h0]
    rfl
  · rename_i h0
    have h1 : isC (nodeAt x.nodes (inp x (c : Int) 1)) = true := h2.resolve_left h0
    rw [gain_out, hv, const_val ok i r1.1 r1.2 h1, Int.mul_comm]
    rfl
theorem rule5_val (ok : okB x = true) {c : Nat} (hc : c < x.nodes.length) (h : joinB x (c : Int) 5 = true) (i : Nat) (ss : List Int) : outP (joinN x (c : Int) 5) x.tables (inF (joinN x (c : Int) 5) (frN ins i) (vsI x ins i)) ss = (vsI x ins i).getD c 0 := by
  have hf := (okR_len ok).1
  unfold joinB at h
  rw [Bool.and_eq_true, Bool.and_eq_true, beq_iff_eq, beq_iff_eq] at h
  obtain ⟨⟨k5, k5'⟩, -⟩ := h
  have hl := ar_of hf hc k5 (n := 1) (by decide)
  have r0 := inp_rng hf (i := (c : Int)) (by omega) (by omega) (k := 0) (by omega)
  obtain ⟨d, hd⟩ := Int.eq_ofNat_of_zero_le r0.1
  have hdl : d < x.nodes.length := by omega
  have k5d : (nodeAt x.nodes (d : Int)).kind = 5 := by rw [← hd]; exact k5'
  have hl2 := ar_of hf hdl k5d (n := 1) (by decide)
  obtain ⟨t, ht⟩ : ∃ t, (nodeAt x.nodes (d : Int)).src = [t] := by
    match e : (nodeAt x.nodes (d : Int)).src with
    | [t] => exact ⟨t, rfl⟩
    | [] => rw [e] at hl2; simp at hl2
    | a :: b :: r => rw [e] at hl2; simp at hl2
  have hjn : joinN x (c : Int) 5 = ⟨5, smp ((nodeAt x.nodes (c : Int)).a * (nodeAt x.nodes (d : Int)).a), 0, [t]⟩ := by
    unfold joinN joinA frm
    rw [if_pos rfl, hd, ht]
  rw [hjn, gain_out, val_K ok i hc k5]
  show _ = smp (_ * _)
  rw [xs_K i (by omega) (by omega), hd, Int.toNat_natCast, val_K ok i hdl k5d]
  show _ = smp (_ * smp (_ * _))
  rw [xs_K i (by omega) (by omega), smp_mull, smp_mulr, Int.mul_assoc]
  unfold inp
  rw [ht]
  rfl
theorem start_join {A B : Int} (hA : 0 ≤ A) (hB : 0 ≤ B) : List.replicate (A + B).toNat (0 : Int) = List.replicate A.toNat 0 ++ List.replicate B.toNat 0 := by
  rw [List.replicate_append_replicate]
  congr 1
  omega
theorem shift_join {s t : List Int} {y : Int} (hs : 1 ≤ s.length) (ht : 1 ≤ t.length) : (s ++ t).drop 1 ++ [y] = (s.drop 1 ++ [t.getD 0 0]) ++ (t.drop 1 ++ [y]) := by
  cases s with
  | nil => simp at hs
  | cons a r =>
    cases t with
    | nil => simp at ht
    | cons b u => simp
theorem a_range {c : Nat} (hf : formedB x = true) (hc : c < x.nodes.length) (hk : (nodeAt x.nodes (c : Int)).kind = 6) : 1 ≤ (nodeAt x.nodes (c : Int)).a ∧ (nodeAt x.nodes (c : Int)).a ≤ 16 := by
  have hb := (ndB_parts.1 (formed_in hf hc)).2.1
  have hk' : (ndI x.nodes (c : Int)).kind = 6 := hk
  rw [hk'] at hb
  have h3 : inB (ndI x.nodes (c : Int)).a 1 16 = true := hb
  rw [inB_iff] at h3; exact h3
theorem st_len (ok : okB x = true) (hi : InsOk x ins) {c : Nat} (hc : c < x.nodes.length) (hk : (nodeAt x.nodes (c : Int)).kind = 6) (i : Nat) : 1 ≤ ((stI x ins i).getD c []).length := by
  have hf := (okR_len ok).1
  have h1 := ((FrOk.run hf hi i).s c hc).1
  rw [h1, ← ndI_at hc]
  unfold startL
  have hk' : (ndI x.nodes (c : Int)).kind = 6 := hk
  rw [if_pos hk', List.length_replicate]
  have := a_range hf hc hk
  have e : (ndI x.nodes (c : Int)).a = (nodeAt x.nodes (c : Int)).a := rfl
  omega
theorem rule6_render (ok : okB x = true) (hi : InsOk x ins) {c : Nat} (hc : c < x.nodes.length) (oky : okB (setN x (c : Int) (joinN x (c : Int) 6)) = true) (h : joinB x (c : Int) 6 = true) (m : Nat) : renL (setN x (c : Int) (joinN x (c : Int) 6)) ins m = renL x ins m := by
  have hf := (okR_len ok).1
  unfold joinB at h
  rw [Bool.and_eq_true, Bool.and_eq_true, beq_iff_eq, beq_iff_eq] at h
  obtain ⟨⟨k6, k6'⟩, -⟩ := h
  have hl := ar_of hf hc k6 (n := 1) (by decide)
  have r0 := inp_rng hf (i := (c : Int)) (by omega) (by omega) (k := 0) (by omega)
  obtain ⟨d, hd⟩ := Int.eq_ofNat_of_zero_le r0.1
  have hdl : d < x.nodes.length := by omega
  have k6d : (nodeAt x.nodes (d : Int)).kind = 6 := by rw [← hd]; exact k6'
  have hl2 := ar_of hf hdl k6d (n := 1) (by decide)
  obtain ⟨t, ht⟩ : ∃ t, (nodeAt x.nodes (d : Int)).src = [t] := by
    match e : (nodeAt x.nodes (d : Int)).src with
    | [t] => exact ⟨t, rfl⟩
    | [] => rw [e] at hl2; simp at hl2
    | a :: b :: r => rw [e] at hl2; simp at hl2
  have hjn : joinN x (c : Int) 6 = ⟨6, (nodeAt x.nodes (c : Int)).a + (nodeAt x.nodes (d : Int)).a, 0, [t]⟩ := by
    unfold joinN joinA frm
    rw [if_neg (by omega), hd, ht]
  have hxd : ∀ i, (inF (nodeAt x.nodes (d : Int)) (frN ins i) (vsI x ins i)).getD 0 0 = (vsI x ins i).getD t.toNat 0 := fun i => by
    rw [xs_K i (by omega) (by omega)]
    unfold inp
    rw [ht]; rfl
  rw [hjn] at oky ⊢
  refine set_render ok oky hc (fun i s => s = (stI x ins i).getD c [] ++ (stI x ins i).getD d []) ?_ (fun i s hs => ⟨?_, ?_⟩) m
  · rw [stI_zero hc, stI_zero hdl]
    have a1 := a_range hf hc k6
    have a2 := a_range hf hdl k6d
    unfold startL
    have e1 : (ndI x.nodes (c : Int)).kind = 6 := k6
    have e2 : (ndI x.nodes (d : Int)).kind = 6 := k6d
    rw [if_pos rfl, if_pos e1, if_pos e2]
    exact start_join (by omega) (by omega)
  · rw [val_K ok i hc k6]
    show s.getD 0 0 = ((stI x ins i).getD c []).getD 0 0
    have := st_len ok hi hc k6 i
    rw [hs, List.getD_eq_getElem?_getD, List.getElem?_append_left (by omega), ← List.getD_eq_getElem?_getD]
  · rw [st_next i hc, st_next i hdl]
    have n1 : nextP (ndI x.nodes (c : Int)) (inF (ndI x.nodes (c : Int)) (frN ins i) (vsI x ins i)) ((stI x ins i).getD c []) ((vsI x ins i).getD c 0) = ((stI x ins i).getD c []).drop 1 ++ [(inF (nodeAt x.nodes (c : Int)) (frN ins i) (vsI x ins i)).getD 0 0] := by
      unfold nextP
      have e1 : (ndI x.nodes (c : Int)).kind = 6 := k6
      rw [e1]; rfl
    have n2 : nextP (ndI x.nodes (d : Int)) (inF (ndI x.nodes (d : Int)) (frN ins i) (vsI x ins i)) ((stI x ins i).getD d []) ((vsI x ins i).getD d 0) = ((stI x ins i).getD d []).drop 1 ++ [(vsI x ins i).getD t.toNat 0] := by
      rw [← hxd i]
      unfold nextP
      have e1 : (ndI x.nodes (d : Int)).kind = 6 := k6d
      rw [e1]; rfl
    rw [n1, n2, xs_K i (by omega) (by omega), hd, Int.toNat_natCast, hs]
    have hvd : (vsI x ins i).getD d 0 = ((stI x ins i).getD d []).getD 0 0 := by rw [val_K ok i hdl k6d]; rfl
    rw [hvd]
    exact shift_join (st_len ok hi hc k6 i) (st_len ok hi hdl k6d i)
/-- equal nodes have the same states and values -/
theorem twin_val (ok : okB x = true) {c d : Nat} (hc : c < x.nodes.length) (hd : d < x.nodes.length) (he : nodeAt x.nodes (d : Int) = nodeAt x.nodes (c : Int)) : ∀ i, (stI x ins i).getD d [] = (stI x ins i).getD c [] ∧ (vsI x ins i).getD d 0 = (vsI x ins i).getD c 0 := by
  have he' : ndI x.nodes (d : Int) = ndI x.nodes (c : Int) := he
  have hv : ∀ i, (stI x ins i).getD d [] = (stI x ins i).getD c [] → (vsI x ins i).getD d 0 = (vsI x ins i).getD c 0 := fun i h => by rw [val_eq ok i hd, val_eq ok i hc, he', h]
  intro i
  induction i with
  | zero =>
    have h0 : (stI x ins 0).getD d [] = (stI x ins 0).getD c [] := by rw [stI_zero hd, stI_zero hc, he']
    exact ⟨h0, hv 0 h0⟩
  | succ i ih =>
    have h0 : (stI x ins (i + 1)).getD d [] = (stI x ins (i + 1)).getD c [] := by rw [st_next i hd, st_next i hc, he', ih.1, ih.2]
    exact ⟨h0, hv (i + 1) h0⟩
theorem twin_spec {i : Int} (h : 0 ≤ twinI x i) : twinI x i ∈ need x ∧ twinI x i < i ∧ nodeAt x.nodes (twinI x i) = nodeAt x.nodes i := by
  unfold twinI at h ⊢
  rcases e : (need x).find? fun k => decide (k < i) && decide (nodeAt x.nodes k = nodeAt x.nodes i) with _ | k
  · rw [e] at h; simp at h
  · have h1 := List.find?_some e
    have h2 := List.mem_of_find?_eq_some e
    simp only [Bool.and_eq_true, decide_eq_true_eq] at h1
    exact ⟨h2, h1⟩
/-- a patch after one rewrite renders the same -/
theorem after_render (ok : okB x = true) (hi : InsOk x ins) {c : Nat} (hc : c < x.nodes.length) (hr : ruleP x (c : Int) ≠ 0) (oky : okB (afterP x (c : Int) (ruleP x (c : Int))) = true) (m : Nat) : renL (afterP x (c : Int) (ruleP x (c : Int))) ins m = renL x ins m := by
  revert hr oky
  unfold ruleP
  cases hn : (need x).contains (c : Int)
  · intro h; exact absurd rfl h
  rw [if_pos rfl]
  by_cases e1 : constB x (c : Int) = true
  · rw [if_pos e1]
    intro _ oky
    exact set_render ok oky hc (fun _ _ => True) trivial (fun i s _ => ⟨(const_out _ _ _ _ _).trans (rule1_val ok hc e1 i), trivial⟩) m
  rw [if_neg e1]
  by_cases e2 : zeroB x (c : Int) = true
  · rw [if_pos e2]
    intro _ oky
    exact set_render ok oky hc (fun _ _ => True) trivial (fun i s _ => ⟨(const_out _ _ _ _ _).trans (rule2_val ok hc e2 i).symm, trivial⟩) m
  rw [if_neg e2]
  by_cases e3 : 0 ≤ sameI x (c : Int)
  · rw [if_pos e3]
    intro _ oky
    exact repl_render ok oky (fun i => by rw [Int.toNat_natCast]; exact rule3_val ok hi hc e3 i) m
  rw [if_neg e3]
  by_cases e4 : factB x (c : Int) = true
  · rw [if_pos e4]
    intro _ oky
    exact set_render ok oky hc (fun _ _ => True) trivial (fun i s _ => ⟨rule4_val ok hc e4 i s, trivial⟩) m
  rw [if_neg e4]
  by_cases e5 : joinOk x (c : Int) 5 = true
  · rw [if_pos e5]
    intro _ oky
    unfold joinOk at e5
    rw [Bool.and_eq_true] at e5
    exact set_render ok oky hc (fun _ _ => True) trivial (fun i s _ => ⟨rule5_val ok hc e5.1 i s, trivial⟩) m
  rw [if_neg e5]
  by_cases e6 : joinOk x (c : Int) 6 = true
  · rw [if_pos e6]
    intro _ oky
    unfold joinOk at e6
    rw [Bool.and_eq_true] at e6
    exact rule6_render ok hi hc oky e6.1 m
  rw [if_neg e6]
  by_cases e7 : 0 ≤ twinI x (c : Int)
  · rw [if_pos e7]
    intro _ oky
    obtain ⟨t1, t2, t3⟩ := twin_spec e7
    have hr := need_rng _ t1
    obtain ⟨d, hd⟩ := Int.eq_ofNat_of_zero_le hr.1
    refine repl_render ok oky (fun i => ?_) m
    rw [hd] at t3 hr ⊢
    rw [Int.toNat_natCast, Int.toNat_natCast]
    exact (twin_val ok hc (by omega) t3 i).2
  rw [if_neg e7]
  intro h; exact absurd rfl h
theorem after_inputs (y : PatchD) (i r : Int) : (afterP y i r).inputs = y.inputs := by
  unfold afterP setN replP
  repeat' split
  all_goals rfl
end
end Go.Proofs.YtcfhcmgmkhfjjaaGreat

namespace Go.Proofs.YtcfhcmgmkhfjjaaGreat
open Go.ChangeShapes Go.WideShapes Go.ChangeAt Go.RowKit Go.Sort
set_option linter.unusedVariables false

theorem rule_none {x : PatchD} {i : Int} : (i ∈ need x → ruleP x i = 0) ↔ (i ∈ need x → constB x i = false ∧ zeroB x i = false ∧ ¬ 0 ≤ sameI x i ∧ factB x i = false ∧ joinOk x i 5 = false ∧ joinOk x i 6 = false ∧ ¬ 0 ≤ twinI x i) := by
  refine forall_congr' fun hm => ?_
  have hc : (need x).contains i = true := by simpa using hm
  unfold ruleP
  rw [if_pos hc]
  constructor
  · intro h
    by_cases e1 : constB x i = true
    · rw [if_pos e1] at h; omega
    rw [if_neg e1] at h
    by_cases e2 : zeroB x i = true
    · rw [if_pos e2] at h; omega
    rw [if_neg e2] at h
    by_cases e3 : 0 ≤ sameI x i
    · rw [if_pos e3] at h; omega
    rw [if_neg e3] at h
    by_cases e4 : factB x i = true
    · rw [if_pos e4] at h; omega
    rw [if_neg e4] at h
    by_cases e5 : joinOk x i 5 = true
    · rw [if_pos e5] at h; omega
    rw [if_neg e5] at h
    by_cases e6 : joinOk x i 6 = true
    · rw [if_pos e6] at h; omega
    rw [if_neg e6] at h
    by_cases e7 : 0 ≤ twinI x i
    · rw [if_pos e7] at h; omega
    exact ⟨by simpa using e1, by simpa using e2, e3, by simpa using e4, by simpa using e5, by simpa using e6, e7⟩
  · rintro ⟨e1, e2, e3, e4, e5, e6, e7⟩
    rw [if_neg (by rw [e1]; simp), if_neg (by rw [e2]; simp), if_neg e3, if_neg (by rw [e4]; simp), if_neg (by rw [e5]; simp), if_neg (by rw [e6]; simp), if_neg e7]
section
variable {x : PatchD} {keep : List Int}
/-- the place of a kept node -/
def bk (x : PatchD) (keep : List Int) (i : Int) : Int := (byL x.nodes.length keep).getD i.toNat 0
theorem bk_at (K : KeepOk x keep) {k : Nat} (hk : k < keep.length) : bk x keep keep[k] = (k : Int) := byL_at K.rise K.rng hk
theorem bk_inj (K : KeepOk x keep) {i j : Int} (hi : i ∈ keep) (hj : j ∈ keep) (h : bk x keep i = bk x keep j) : i = j := by
  obtain ⟨a, ha, rfl⟩ := List.mem_iff_getElem.1 hi
  obtain ⟨b, hb, rfl⟩ := List.mem_iff_getElem.1 hj
  rw [bk_at K ha, bk_at K hb] at h
  obtain rfl : a = b := by omega
  rfl
theorem bk_nd (K : KeepOk x keep) {i : Int} (hi : i ∈ keep) : nodeAt (keepP x keep).nodes (bk x keep i) = { nodeAt x.nodes i with src := (nodeAt x.nodes i).src.map (bk x keep) } := by
  obtain ⟨a, ha, rfl⟩ := List.mem_iff_getElem.1 hi
  rw [bk_at K ha]
  exact keep_nd ha K
theorem bk_lt (K : KeepOk x keep) {i j : Int} (hi : i ∈ keep) (hj : j ∈ keep) (h : bk x keep i < bk x keep j) : i < j := by
  obtain ⟨a, ha, rfl⟩ := List.mem_iff_getElem.1 hi
  obtain ⟨b, hb, rfl⟩ := List.mem_iff_getElem.1 hj
  rw [bk_at K ha, bk_at K hb] at h
  exact rising_lt K.rise (by omega) hb
theorem map_inj {f : Int → Int} : ∀ {us vs : List Int}, (∀ a ∈ us, ∀ b ∈ vs, f a = f b → a = b) → us.map f = vs.map f → us = vs
  | [], [], _, _ => rfl
  | [], b :: vs, _, h => by simp at h
  | a :: us, [], _, h => by simp at h
  | a :: us, b :: vs, hf, h => by
    simp only [List.map_cons, List.cons.injEq] at h
    rw [hf a (List.mem_cons_self ..) b (List.mem_cons_self ..) h.1, map_inj (fun c hc d hd => hf c (List.mem_cons_of_mem _ hc) d (List.mem_cons_of_mem _ hd)) h.2]
theorem all_map_eq {f : Int → Int} {p q : Int → Bool} : ∀ {us : List Int}, (∀ a ∈ us, p (f a) = q a) → (us.map f).all p = us.all q
  | [], _ => rfl
  | a :: us, h => by
    rw [List.map_cons, List.all_cons, List.all_cons, h a (List.mem_cons_self ..), all_map_eq fun b hb => h b (List.mem_cons_of_mem _ hb)]
theorem src_mem (K : KeepOk x keep) {i : Int} (hi : i ∈ keep) {j : Nat} (hj : j < (nodeAt x.nodes i).src.length) : inp x i j ∈ keep := K.shut i hi _ (getD_mem hj)
theorem inp_bk (K : KeepOk x keep) {i : Int} (hi : i ∈ keep) {j : Nat} (hj : j < (nodeAt x.nodes i).src.length) : inp (keepP x keep) (bk x keep i) j = bk x keep (inp x i j) := by
  unfold inp
  rw [bk_nd K hi]
  show ((nodeAt x.nodes i).src.map (bk x keep)).getD j 0 = _
  rw [List.getD_eq_getElem?_getD, List.getElem?_map, List.getElem?_eq_getElem hj, List.getD_eq_getElem?_getD, List.getElem?_eq_getElem hj]
  rfl
theorem frm_bk (K : KeepOk x keep) {i : Int} (hi : i ∈ keep) {j : Nat} (hj : j < (nodeAt x.nodes i).src.length) : (frm (keepP x keep) (bk x keep i) j).kind = (frm x i j).kind ∧ (frm (keepP x keep) (bk x keep i) j).a = (frm x i j).a := by
  unfold frm
  rw [inp_bk K hi hj, bk_nd K (src_mem K hi hj)]
  exact ⟨rfl, rfl⟩
theorem isC_bk (K : KeepOk x keep) {i : Int} (hi : i ∈ keep) {j : Nat} (hj : j < (nodeAt x.nodes i).src.length) : isC (frm (keepP x keep) (bk x keep i) j) = isC (frm x i j) := by
  unfold isC
  rw [(frm_bk K hi hj).1]
theorem isCO_bk (K : KeepOk x keep) {i : Int} (hi : i ∈ keep) {j : Nat} (hj : j < (nodeAt x.nodes i).src.length) (a : Int) : isCO (frm (keepP x keep) (bk x keep i) j) a = isCO (frm x i j) a := by
  unfold isCO
  rw [(frm_bk K hi hj).1, (frm_bk K hi hj).2]
theorem inp_eq_bk (K : KeepOk x keep) {i : Int} (hi : i ∈ keep) {j l : Nat} (hj : j < (nodeAt x.nodes i).src.length) (hl : l < (nodeAt x.nodes i).src.length) : inp (keepP x keep) (bk x keep i) j = inp (keepP x keep) (bk x keep i) l ↔ inp x i j = inp x i l := by
  rw [inp_bk K hi hj, inp_bk K hi hl]
  exact ⟨bk_inj K (src_mem K hi hj) (src_mem K hi hl), fun h => by rw [h]⟩
theorem bk_pos (K : KeepOk x keep) {i : Int} (hi : i ∈ keep) : 0 ≤ bk x keep i := by
  obtain ⟨a, ha, rfl⟩ := List.mem_iff_getElem.1 hi
  rw [bk_at K ha]; omega
theorem ar_ofI (hf : formedB x = true) (K : KeepOk x keep) {i : Int} (hi : i ∈ keep) {k : Int} (hk : (nodeAt x.nodes i).kind = k) {n : Nat} (hn : kAr (k - 1).toNat = (n : Int)) : (nodeAt x.nodes i).src.length = n := by
  have hr := K.rng i hi
  have := (nodeB_ar (nodeAt_ok hf hr.1 hr.2)).2
  rw [hk, hn] at this
  omega
theorem const_bk (K : KeepOk x keep) {i : Int} (hi : i ∈ keep) : constB (keepP x keep) (bk x keep i) = constB x i := by
  unfold constB
  rw [bk_nd K hi]
  show (foldL.contains (nodeAt x.nodes i).kind && ((nodeAt x.nodes i).src.map (bk x keep)).all fun j => isC (nodeAt (keepP x keep).nodes j)) = _
  congr 1
  refine all_map_eq fun s hs => ?_
  rw [bk_nd K (K.shut i hi s hs)]
  rfl
theorem kind_bk (K : KeepOk x keep) {i : Int} (hi : i ∈ keep) : (nodeAt (keepP x keep).nodes (bk x keep i)).kind = (nodeAt x.nodes i).kind ∧ (nodeAt (keepP x keep).nodes (bk x keep i)).a = (nodeAt x.nodes i).a := by
  rw [bk_nd K hi]; exact ⟨rfl, rfl⟩
theorem zero_bk (hf : formedB x = true) (K : KeepOk x keep) {i : Int} (hi : i ∈ keep) : zeroB (keepP x keep) (bk x keep i) = zeroB x i := by
  unfold zeroB zeroK
  rw [(kind_bk K hi).1, (kind_bk K hi).2]
  split
  · rfl
  · split
    · rename_i hk
      have hl := ar_ofI hf K hi hk (n := 2) (by decide)
      rw [Bool.eq_iff_iff, beq_iff_eq, beq_iff_eq]
      exact inp_eq_bk K hi (by omega) (by omega)
    · split
      · rename_i hk
        have hl : (nodeAt x.nodes i).src.length = 1 := by
          rcases hk with hk | hk | hk | hk <;> exact ar_ofI hf K hi hk (by decide)
        exact isCO_bk K hi (by omega) 0
      · rfl
theorem same_bk (hf : formedB x = true) (K : KeepOk x keep) {i : Int} (hi : i ∈ keep) (h : ¬ 0 ≤ sameI x i) : ¬ 0 ≤ sameI (keepP x keep) (bk x keep i) := by
  intro h'
  apply h
  have hin : ∀ j, j < (nodeAt x.nodes i).src.length → 0 ≤ inp x i j := fun j hj => (K.rng _ (src_mem K hi hj)).1
  unfold sameI sameK at h' ⊢
  rw [(kind_bk K hi).1, (kind_bk K hi).2] at h'
  by_cases k5 : (nodeAt x.nodes i).kind = 5
  · have hl := ar_ofI hf K hi k5 (n := 1) (by decide)
    rw [if_pos k5] at h' ⊢
    split at h'
    · rename_i ha; rw [if_pos ha]; exact hin 0 (by omega)
    · omega
  rw [if_neg k5] at h' ⊢
  by_cases k10 : (nodeAt x.nodes i).kind = 10
  · have hl := ar_ofI hf K hi k10 (n := 1) (by decide)
    rw [if_pos k10] at h' ⊢
    split at h'
    · rename_i ha; rw [if_pos ha]; exact hin 0 (by omega)
    · omega
  rw [if_neg k10] at h' ⊢
  by_cases k3 : (nodeAt x.nodes i).kind = 3
  · have hl := ar_ofI hf K hi k3 (n := 2) (by decide)
    rw [if_pos k3] at h' ⊢
    rw [isCO_bk K hi (by omega), isCO_bk K hi (by omega)] at h'
    split at h'
    · rename_i ha; rw [if_pos ha]; exact hin 1 (by omega)
    · rename_i ha
      rw [if_neg ha]
      split at h'
      · rename_i ha2; rw [if_pos ha2]; exact hin 0 (by omega)
      · omega
  rw [if_neg k3] at h' ⊢
  by_cases k4 : (nodeAt x.nodes i).kind = 4
  · have hl := ar_ofI hf K hi k4 (n := 2) (by decide)
    rw [if_pos k4] at h' ⊢
    rw [isCO_bk K hi (by omega)] at h'
    split at h'
    · rename_i ha; rw [if_pos ha]; exact hin 0 (by omega)
    · omega
  rw [if_neg k4] at h' ⊢
  by_cases k16 : (nodeAt x.nodes i).kind = 16
  · have hl := ar_ofI hf K hi k16 (n := 2) (by decide)
    rw [if_pos k16] at h' ⊢
    rw [isC_bk K hi (by omega), (frm_bk K hi (by omega)).2] at h'
    split at h'
    · rename_i ha; rw [if_pos ha]; exact hin 0 (by omega)
    · omega
  rw [if_neg k16] at h' ⊢
  by_cases k15 : (nodeAt x.nodes i).kind = 15
  · have hl := ar_ofI hf K hi k15 (n := 3) (by decide)
    rw [if_pos k15] at h' ⊢
    rw [isC_bk K hi (by omega), (frm_bk K hi (by omega)).2] at h'
    have eq := inp_eq_bk K hi (j := 1) (l := 2) (by omega) (by omega)
    split at h'
    · rename_i ha; rw [if_pos (ha.imp eq.1 id)]; exact hin 1 (by omega)
    · rename_i ha
      rw [if_neg (fun h => ha (h.imp eq.2 id))]
      split at h'
      · rename_i ha2; rw [if_pos ha2]; exact hin 2 (by omega)
      · omega
  rw [if_neg k15] at h'
  omega
theorem fact_bk (hf : formedB x = true) (K : KeepOk x keep) {i : Int} (hi : i ∈ keep) : factB (keepP x keep) (bk x keep i) = factB x i := by
  unfold factB
  rw [(kind_bk K hi).1]
  by_cases k9 : (nodeAt x.nodes i).kind = 9
  · have hl := ar_ofI hf K hi k9 (n := 2) (by decide)
    rw [isC_bk K hi (by omega), isC_bk K hi (by omega)]
  · have : ((nodeAt x.nodes i).kind == 9) = false := by simpa using k9
    rw [this, Bool.false_and, Bool.false_and]
theorem join_bk (hf : formedB x = true) (K : KeepOk x keep) {i : Int} (hi : i ∈ keep) {k : Int} (hk : k = 5 ∨ k = 6) : joinOk (keepP x keep) (bk x keep i) k = joinOk x i k := by
  unfold joinOk joinB joinA
  rw [(kind_bk K hi).1, (kind_bk K hi).2]
  by_cases kk : (nodeAt x.nodes i).kind = k
  · have hl : (nodeAt x.nodes i).src.length = 1 := by
      rcases hk with rfl | rfl <;> exact ar_ofI hf K hi kk (by decide)
    rw [(frm_bk K hi (by omega)).1, (frm_bk K hi (by omega)).2, inp_bk K hi (by omega)]
    have : (bk x keep (inp x i 0) == bk x keep i) = (inp x i 0 == i) := by
      rw [Bool.eq_iff_iff, beq_iff_eq, beq_iff_eq]
      exact ⟨bk_inj K (src_mem K hi (by omega)) hi, fun h => by rw [h]⟩
    rw [this]
  · have : ((nodeAt x.nodes i).kind == k) = false := by simpa using kk
    rw [this]
    simp
theorem twin_pos {i k : Int} (hk : k ∈ need x) (hlt : k < i) (he : nodeAt x.nodes k = nodeAt x.nodes i) : 0 ≤ twinI x i := by
  unfold twinI
  rcases e : (need x).find? fun k => decide (k < i) && decide (nodeAt x.nodes k = nodeAt x.nodes i) with _ | j
  · have := List.find?_eq_none.1 e k hk
    simp only [Bool.and_eq_true, decide_eq_true_eq, not_and] at this
    exact absurd he (this hlt)
  · exact (need_rng j (List.mem_of_find?_eq_some e)).1
end
/-- in a trimmed patch all nodes are needed -/
theorem trim_need {x : PatchD} (hf : formedB x = true) : ∀ k, k < (need x).length → (k : Int) ∈ need (trimP x) := by
  have K := need_keep hf
  have hq : formedB (keepP x (need x)) = true := keep_formed hf K
  have K2 := need_keep hq
  have E := marksL_end (formed_src hf) (formed_outs hf)
  intro k hk
  have hi : (need x)[k] ∈ need x := List.getElem_mem hk
  obtain ⟨h0, h1, h2⟩ := mem_ups.1 hi
  have := E.least (fun i => i ∈ need x ∧ bk x (need x) i ∈ need (keepP x (need x))) (fun i hi0 hi1 hS s hs => ?_) (fun i _ _ h => absurd h (mk_none _ _)) (fun o ho => ⟨K.outs o ho, ?_⟩) _ h0 h1 h2
  · have h3 := this.2
    rw [bk_at K hk] at h3; exact h3
  · have hs' : s ∈ (ndI x.nodes i).src := hs
    refine ⟨K.shut i hS.1 s hs', K2.shut _ hS.2 _ ?_⟩
    rw [← ndI_nodeAt, bk_nd K hS.1]
    exact List.mem_map.2 ⟨s, hs', rfl⟩
  · exact K2.outs _ (List.mem_map.2 ⟨o, ho, rfl⟩)
theorem trim_need_len {x : PatchD} (hf : formedB x = true) : (need (trimP x)).length = (trimP x).nodes.length := by
  have h1 : need (trimP x) = (List.range (trimP x).nodes.length).map fun i => ((i : Nat) : Int) := by
    refine rising_ext (ups_rising _ _) ?_ fun i => ?_
    · unfold Rising
      rw [List.pairwise_map]
      exact (List.pairwise_lt_range (n := (trimP x).nodes.length)).imp fun h => by omega
    · constructor
      · intro hi
        have := need_rng i hi
        exact List.mem_map.2 ⟨i.toNat, List.mem_range.2 (by omega), by omega⟩
      · intro hi
        obtain ⟨k, hk, rfl⟩ := List.mem_map.1 hi
        rw [List.mem_range, trim_len] at hk
        exact trim_need hf k hk
  rw [h1, List.length_map, List.length_range]
/-- no rule applies in a trimmed patch if none applied ahead of trimming -/
theorem trim_rule {x : PatchD} (hf : formedB x = true) (h : ∀ i ∈ need x, ruleP x i = 0) : ∀ k ∈ need (trimP x), ruleP (trimP x) k = 0 := by
  have K := need_keep hf
  intro k hkn
  have hr := need_rng k hkn
  rw [trim_len] at hr
  obtain ⟨j, rfl⟩ := Int.eq_ofNat_of_zero_le hr.1
  have hj : j < (need x).length := by omega
  have hi : (need x)[j] ∈ need x := List.getElem_mem hj
  obtain ⟨e1, e2, e3, e4, e5, e6, e7⟩ := rule_none.1 (fun _ => h _ hi) hi
  have hb := bk_at K hj
  refine rule_none.2 (fun _ => ?_) hkn
  rw [← hb]
  refine ⟨(const_bk K hi).trans e1, (zero_bk hf K hi).trans e2, same_bk hf K hi e3, (fact_bk hf K hi).trans e4, (join_bk hf K hi (.inl rfl)).trans e5, (join_bk hf K hi (.inr rfl)).trans e6, fun h7 => e7 ?_⟩
  obtain ⟨t1, t2, t3⟩ := twin_spec (x := trimP x) h7
  have tr := need_rng _ t1
  rw [trim_len] at tr
  obtain ⟨l, hl⟩ := Int.eq_ofNat_of_zero_le tr.1
  have hll : l < (need x).length := by omega
  have hm : (need x)[l] ∈ need x := List.getElem_mem hll
  have hbl := bk_at K hll
  rw [hl, ← hbl] at t2 t3
  have t3' : nodeAt (keepP x (need x)).nodes (bk x (need x) (need x)[l]) = nodeAt (keepP x (need x)).nodes (bk x (need x) (need x)[j]) := t3
  rw [bk_nd K hm, bk_nd K hi] at t3'
  refine twin_pos hm (bk_lt K hm hi t2) ?_
  have q := NodeD.mk.inj t3'
  obtain ⟨q1, q2, q3, q4⟩ := q
  have q5 := map_inj (fun a ha b hb => bk_inj K (K.shut _ hm a ha) (K.shut _ hi b hb)) q4
  have q6 : (nodeAt x.nodes (need x)[l]).src = (nodeAt x.nodes (need x)[j]).src := q5
  generalize nodeAt x.nodes (need x)[l] = A at q1 q2 q3 q6
  generalize nodeAt x.nodes (need x)[j] = C at q1 q2 q3 q6
  obtain ⟨a1, a2, a3, a4⟩ := A
  obtain ⟨b1, b2, b3, b4⟩ := C
  dsimp only at q1 q2 q3 q6
  rw [q1, q2, q3, q6]
end Go.Proofs.YtcfhcmgmkhfjjaaGreat

namespace Go.Proofs.YtcfhcmgmkhfjjaaGreat
open Go.ChangeShapes Go.WideShapes Go.ChangeAt Go.RowKit Go.Sort
set_option linter.unusedVariables false

theorem nx_need {x : PatchD} (h : nxB x = true) : nxN x ∈ need x := ruleP_need (nx_step h).1
theorem nx_render {x : PatchD} {ins : List (List Int)} (ok : okB x = true) (hi : InsOk x ins) (h : nxB x = true) (m : Nat) : renL (nxP x) ins m = renL x ins m := by
  obtain ⟨h1, h2, h3⟩ := nx_step h
  have hok := nx_ok ok h
  have hr := need_rng _ (nx_need h)
  obtain ⟨c, hc⟩ := Int.eq_ofNat_of_zero_le hr.1
  rw [hc] at h1 h3 hr
  rw [h3] at hok ⊢
  exact after_render ok hi (by omega) h1 hok m
theorem nx_inputs {x : PatchD} (h : nxB x = true) : (nxP x).inputs = x.inputs := by rw [(nx_step h).2.2]; exact after_inputs _ _ _
theorem after_len (y : PatchD) (i r : Int) : (afterP y i r).nodes.length = y.nodes.length := by
  unfold afterP setN replP
  repeat' split
  all_goals simp
theorem nx_len {x : PatchD} (h : nxB x = true) : (nxP x).nodes.length = x.nodes.length := by rw [(nx_step h).2.2]; exact after_len _ _ _
theorem runs_render {x y : PatchD} {rs : List (Int × Int)} {ins : List (List Int)} (h : Runs x y rs) (m : Nat) : okB x = true → InsOk x ins → renL y ins m = renL x ins m ∧ y.inputs = x.inputs ∧ y.nodes.length = x.nodes.length := by
  induction h with
  | done _ => exact fun _ _ => ⟨rfl, rfl, rfl⟩
  | step hb _ ih =>
    intro ok hi
    obtain ⟨e1, e2, e3⟩ := ih (nx_ok ok hb) ⟨by rw [nx_inputs hb]; exact hi.n, hi.s⟩
    exact ⟨e1.trans (nx_render ok hi hb m), e2.trans (nx_inputs hb), e3.trans (nx_len hb)⟩
theorem runs_shape {x y : PatchD} {rs : List (Int × Int)} (h : Runs x y rs) : y.inputs = x.inputs ∧ y.nodes.length = x.nodes.length ∧ nxB y = false := by
  induction h with
  | done h => exact ⟨rfl, rfl, h⟩
  | step hb _ ih => exact ⟨ih.1.trans (nx_inputs hb), ih.2.1.trans (nx_len hb), ih.2.2⟩
theorem nxB_rules {x : PatchD} : nxB x = false ↔ ∀ i ∈ need x, ruleP x i = 0 := by
  unfold nxB
  rcases e : fstI x with _ | i
  · refine ⟨fun _ => ?_, fun _ => rfl⟩
    unfold fstI at e
    have := List.find?_eq_none.1 e
    exact fun i hi => by simpa using this i hi
  · refine ⟨fun h => (by cases h), fun h => ?_⟩
    unfold fstI at e
    have h1 := List.find?_some e
    have h2 := List.mem_of_find?_eq_some e
    have := h i h2
    simp [this] at h1
/-- a trimmed patch to which no rule applies -/
theorem trim_opt {x : PatchD} (ok : okB x = true) (h : nxB x = false) : optB (trimP x) = true := by
  have hf := (okR_len ok).1
  unfold optB
  rw [trim_okB ok, trim_need_len hf, nxB_rules.2 (trim_rule hf (nxB_rules.1 h))]
  simp
theorem opt_facts {x : PatchD} (ok : okB x = true) : okB (optRes x) = true ∧ optB (optRes x) = true ∧ (optRes x).inputs = x.inputs ∧ (optRes x).nodes.length ≤ x.nodes.length ∧ savRes x = (x.nodes.length : Int) - ((optRes x).nodes.length : Int) := by
  have hr := runs_all ok
  obtain ⟨e1, e2, e3⟩ := runs_shape hr
  have ok2 := all_ok ok
  unfold optRes savRes
  rw [if_pos ok, if_pos ok]
  refine ⟨trim_okB ok2, trim_opt ok2 e3, e1, ?_, rfl⟩
  rw [trim_len]; have := need_length (allP x); omega
theorem opt_render {x : PatchD} {ins : List (List Int)} (ok : okB x = true) (hi : InsOk x ins) (m : Nat) : renL (optRes x) ins m = renL x ins m := by
  unfold optRes
  rw [if_pos ok, trim_render (all_ok ok), (runs_render (runs_all ok) m ok hi).1]
end Go.Proofs.YtcfhcmgmkhfjjaaGreat
