/-
  Several texts in one: RnR, RnL, NeedM, KeepM, ChainM, RnC, PatU, Queue, Put, Need, Need2, Keep, ChainS, TrimS, Trim, LinP, Count, Trim2, ChainT.
-/
import Derived.Test.YtdjoaaccnadccaaPk7
import Derived.Test.YtdjoaaccnadccaaPk6
import Derived.Test.YtdjoaaccnadccaaPk1
import Derived.Deep.RegionHeld3
import Derived.Test.YtdjoaaccnadccaaPk3
import Derived.Test.YtdjoaaccnadccaaPk4
import Derived.Deep.AppendSrc
import Derived.Deep.Upon
import Derived.Deep.MidRow
import Derived.StillTailTactics
namespace Go.Proofs.Ytdjoaaccnadccaa
open Go.ChangeShapes Go.WideShapes Go.ChangeAt Go.RowKit Go.Sort
set_option linter.unusedVariables false
set_option linter.unusedSimpArgs false

set_option maxHeartbeats 1600000 in
theorem l08Render_any {gp n : Nat} {x : PatchD} {ins : List (List Int)} {pi : Option Addr} {ci : Nat} (w : World) (h : PPatch w gp x) (hok : okB x = true) (hin : RdII w pi ins) (hi : InsOk x ins) (hn : n ≤ 4000) :
    Calls Try.prog 26 #[.pointer (some ⟨gp, 0, none⟩), .slice pi ins.length ci, .int .i64 (n : Int)] w fun e w' => ∃ u L, e = .returned u ∧ OwnII w.heap.size w' u (renL x ins n) L ∧ Below w.heap.size w w' := by
  have hf := (okR_len hok).1
  have ST := Lib.hid (l08Start_any w h (fun nd hnd => by
    have h1 := (formed_iff.1 hf).2.2.2.2.1 _ hnd
    unfold ndB at h1
    simp only [Bool.and_eq_true] at h1
    exact startOk_of h1.1.1) (okR_len hok).2.2)
  have HP := Lib.hid h
  have HOK := Lib.hid hok
  have HI := Lib.hid hi
  have HIN := Lib.hid hin
  clear h hok hi hin hf
  go_enter Try.func26, Try.ntmps26
  go_wp2_with fail
  refine ST.out.mono ?_
  rintro e w1 ⟨u, L, rfl, ⟨u0, L0, rfl, rfl, o⟩, hb1⟩
  obtain ⟨up, uc, rfl, -⟩ := o.rd
  have hl : (x.nodes.map startL).length = x.nodes.length := by simp
  have o : OwnII w.heap.size w1 (.slice up x.nodes.length uc) (x.nodes.map startL) L0 := by rw [← hl]; exact o
  rw [hl]
  clear hl
  obtain ⟨F, hF⟩ : ∃ F, F = w1.alloc (.cells #[.slice up x.nodes.length uc] 76) := ⟨_, rfl⟩
  obtain ⟨g, hg⟩ : ∃ g, g = w1.heap.size := ⟨_, rfl⟩
  have hbF : Below w1.heap.size w1 F := by rw [hF]; exact (Below.refl _ _).alloc (Nat.le_refl _) _
  have bs : Box F g [.slice up x.nodes.length uc] 76 := by rw [hF]; exact Box.newAt w1 _ _ hg
  have o2 := o.below hbF
  have BK : Hid (Calls Try.prog 44 #[.pointer (some ⟨gp, 0, none⟩), .pointer (some ⟨g, 0, none⟩), .slice pi ins.length ci, .int .i64 0, .int .i64 (n : Int)] F fun e w' => ∃ u L, e = .returned u ∧ OwnII F.heap.size w' u (renL x ins n) L ∧ Below w1.heap.size w1 w') :=
    l08Block_any (Bs := w.heap.size) hbF (by omega) (HP.out.below hb1) HOK.out (HIN.out.below hb1) HI.out bs o2 hn
  have HF := Lib.hid hF
  have HG := Lib.hid hg
  have hz := hb1.size
  have hz2 := hbF.size
  clear hF hg o o2 bs
  go_upto_region 2 with fail
  rw [← HF.out, ← HG.out]
  go_wp2_with fail
  refine BK.out.mono ?_
  rintro e w2 ⟨u2, L2, rfl, ho, hb2⟩
  obtain ⟨q, c, rfl, -⟩ := ho.rd
  go_wp2_with fail
  go_ret
  exact ⟨_, L2, rfl, ho.mono (by omega), hb1.trans (hb2.mono hz)⟩
/-! ### spec.Render -/
def sigsB (x : PatchD) (ins : List (List Int)) : Bool := ins.all (fun a => decide (a.length ≤ 4000) && a.all isSmp) && decide ((ins.length : Int) = x.inputs)
def renCode (x : PatchD) (ins : List (List Int)) (n : Int) : Int := if okB x then (if sigsB x ins && inB n 0 4000 then 0 else 2) else 1
def renRes (x : PatchD) (ins : List (List Int)) (n : Int) : List (List Int) := if renCode x ins n = 0 then renL x ins n.toNat else []
theorem sigsB_ok {x : PatchD} {ins : List (List Int)} (h : sigsB x ins = true) : InsOk x ins := by
  unfold sigsB at h
  simp only [Bool.and_eq_true, List.all_eq_true, decide_eq_true_eq] at h
  exact ⟨h.2, fun a ha => List.all_eq_true.2 (h.1 a ha).2⟩
theorem renCode_ok {x : PatchD} {ins : List (List Int)} {n : Int} (h : renCode x ins n = 0) : okB x = true ∧ sigsB x ins = true ∧ 0 ≤ n ∧ n ≤ 4000 := by
  unfold renCode at h
  split at h
  · rename_i h1
    split at h
    · rename_i h2
      rw [Bool.and_eq_true, inB_iff] at h2
      exact ⟨h1, h2.1, h2.2⟩
    · omega
  · omega
set_option maxHeartbeats 1600000 in
theorem l08Signals_any {gp : Nat} {x : PatchD} {ins : List (List Int)} {pi : Option Addr} {ci : Nat} (w : World) (h : PPatch w gp x) (hin : RdII w pi ins) :
    Calls Try.prog 24 #[.pointer (some ⟨gp, 0, none⟩), .slice pi ins.length ci] w fun e w' => e = .returned (.bool (sigsB x ins)) ∧ Below w.heap.size w w' := by
  obtain ⟨p1, c1, p2, c2, p3, c3, bx, -, -, -⟩ := h
  have hil := hin.len
  unfold maxLen at hil
  have HS : Hid (∀ k, k ≤ ins.length → (∀ j, j < k → ∀ a, ins[j]? = some a → (decide (a.length ≤ 4000) && a.all isSmp) = true) → ∀ b, (∀ a, ins[k]? = some a → (decide (a.length ≤ 4000) && a.all isSmp) = b) → (k < ins.length → b = false → sigsB x ins = false) ∧ (k = ins.length → sigsB x ins = decide ((ins.length : Int) = x.inputs))) := fun k hk hall b hb => by
    refine ⟨fun hlt hbf => ?_, fun he => ?_⟩
    · unfold sigsB
      rw [Bool.and_eq_false_iff]
      left
      rw [List.all_eq_false]
      refine ⟨ins[k], List.getElem_mem hlt, ?_⟩
      rw [hb _ (List.getElem?_eq_getElem hlt), hbf]; simp
    · unfold sigsB
      have : ins.all (fun a => decide (a.length ≤ 4000) && a.all isSmp) = true := List.all_eq_true.2 fun a ha => by
        obtain ⟨j, hj, rfl⟩ := List.mem_iff_getElem.1 ha
        exact hall j (by omega) _ (List.getElem?_eq_getElem hj)
      rw [this, Bool.true_and]
  generalize sigsB x ins = R at HS ⊢
  go_enter Try.func24, Try.ntmps24
  go_wp2_with fail
  go_loopw [5] (fun i wr => ∃ k : Nat, k ≤ ins.length ∧ i = .int .i64 (k : Int) ∧ Hid (∀ j, j < k → ∀ a, ins[j]? = some a → (decide (a.length ≤ 4000) && a.all isSmp) = true) ∧ Below w.heap.size w wr) (fun i _ => ins.length - (intOf i).toNat)
  case atStart => exact ⟨0, Nat.zero_le _, rfl, fun j hj => by omega, Below.refl _ _⟩
  case round =>
    obtain ⟨k, hk, rfl, HA, hbel⟩ := hrel
    obtain ⟨wi, rfl⟩ : ∃ W : World, W = wr := ⟨_, rfl⟩
    have hsz := hbel.size
    have z0 := (bx.below hbel).cell 0 rfl
    by_cases hlt : k < ins.length
    · obtain ⟨b, o, q, c, rfl, hb, hrow, hrr⟩ := (hin.below hbel).at0 hlt
      have hg : ins.getD k [] = ins[k] := by rw [List.getD_eq_getElem?_getD, List.getElem?_eq_getElem hlt]; rfl
      have hg2 : ins[k]? = some (ins.getD k []) := by rw [hg]; exact List.getElem?_eq_getElem hlt
      have LX := Lib.hid (l03Ok_any (c := c) wi hrr)
      have HS1 := Lib.hid (fun b' (hb' : (decide ((ins.getD k []).length ≤ 4000) && (ins.getD k []).all isSmp) = b') => (HS.out k hk HA.out b' (fun a ha => by rw [hg2] at ha; obtain rfl := Option.some.inj ha; exact hb')).1 hlt)
      have HA2 : Hid ((decide ((ins.getD k []).length ≤ 4000) && (ins.getD k []).all isSmp) = true → ∀ j, j < k + 1 → ∀ a, ins[j]? = some a → (decide (a.length ≤ 4000) && a.all isSmp) = true) := fun ht j hj a ha => by
        by_cases hjk : j = k
        · subst hjk
          rw [hg2] at ha
          obtain rfl := Option.some.inj ha
          exact ht
        · exact HA.out j (by omega) a ha
      clear hg hg2
      generalize ins.getD k [] = row at hrow hrr LX HS1 HA2
      generalize (decide (row.length ≤ 4000) && row.all isSmp) = bb at LX HS1 HA2
      cases bb
      · obtain rfl : R = false := HS1.out false rfl rfl
        go_wp2_with (first | (go_at_call 42; refine LX.out.mono ?_; rintro e w2 ⟨rfl, hd⟩) | fail)
        have hd2 : Below wi.heap.size wi w2 := by first | exact hd | exact hd.below _ | (obtain rfl := hd; exact Below.refl _ _)
        go_ret
        exact ⟨rfl, hbel.trans (hd2.mono hsz)⟩
      · have HA3 := Lib.hid (HA2.out rfl)
        go_wp2_with (first | (go_at_call 42; refine LX.out.mono ?_; rintro e w2 ⟨rfl, hd⟩) | fail)
        have hd2 : Below wi.heap.size wi w2 := by first | exact hd | exact hd.below _ | (obtain rfl := hd; exact Below.refl _ _)
        go_roundw
        case rel => exact ⟨k + 1, by omega, by go_num, HA3, hbel.trans (hd2.mono hsz)⟩
        case measure => simp [intOf] <;> omega
    · obtain rfl : k = ins.length := by omega
      have hR := (HS.out _ (Nat.le_refl _) HA.out false (fun a ha => by rw [List.getElem?_eq_none (Nat.le_refl _)] at ha; cases ha)).2 rfl
      have HRR := Lib.hid hR
      clear hR
      go_wp2_with fail
      go_ret
      have hq : ((ins.length : Int) == x.inputs) = decide ((ins.length : Int) = x.inputs) := by rw [Bool.eq_iff_iff, beq_iff_eq, decide_eq_true_iff]
      exact ⟨by rw [HRR.out, ← hq]; rfl, hbel⟩
/-- lists of lists and a code, as results -/
def RetII (w : World) (xss : List (List Int)) (code : Int) (e : Ending) (w' : World) : Prop := ∃ u L, e = .returned (.tuple #[u, .int .i64 code]) ∧ OwnII w.heap.size w' u xss L ∧ Below w.heap.size w w'
set_option maxHeartbeats 1600000 in
theorem specRender_any {v : Value} {x : PatchD} {ins : List (List Int)} {pi : Option Addr} {ci : Nat} (n : Int) (w : World) (h : VPatch w v x) (hin : RdII w pi ins) :
    Calls Try.prog 8 #[v, .slice pi ins.length ci, .int .i64 n] w (RetII w (renRes x ins n) (renCode x ins n)) := by
  obtain ⟨p1, c1, p2, c2, p3, c3, rfl, hp⟩ := PPatch.of h
  obtain ⟨g, hg⟩ : ∃ g, g = w.heap.size := ⟨_, rfl⟩
  obtain ⟨E, hE⟩ : ∃ E, E = w.alloc (.cells #[.int .i64 x.inputs, .slice p1 x.tables.length c1, .slice p2 x.nodes.length c2, .slice p3 x.outputs.length c3] 28) := ⟨_, rfl⟩
  have hB : Below w.heap.size w E := by rw [hE]; exact (Below.refl _ _).alloc (Nat.le_refl _) _
  have hpE : PPatch E g x := by rw [hg, hE]; exact hp
  have OK := Lib.hid (l07Ok_any E hpE)
  have SG := Lib.hid (fun W (hW : Below E.heap.size E W) => l08Signals_any (ci := ci) W (hpE.below hW) ((hin.below hB).below hW))
  have IN := Lib.hid (fun W => l00In_any n 0 4000 W)
  have RD : Hid (renCode x ins n = 0 → ∀ W, Below E.heap.size E W → Calls Try.prog 26 #[.pointer (some ⟨g, 0, none⟩), .slice pi ins.length ci, .int .i64 n] W fun e w' => ∃ u L, e = .returned u ∧ OwnII W.heap.size w' u (renL x ins n.toNat) L ∧ Below W.heap.size W w') := fun hc W hW => by
    obtain ⟨k1, k2, k3, k4⟩ := renCode_ok hc
    have := l08Render_any (ci := ci) (n := n.toNat) W (hpE.below hW) k1 ((hin.below hB).below hW) (sigsB_ok k2) (by omega)
    rwa [show ((n.toNat : Nat) : Int) = n by omega] at this
  have HC : Hid (∀ b1 b2 b3, okB x = b1 → sigsB x ins = b2 → inB n 0 4000 = b3 → renCode x ins n = if b1 then (if b2 && b3 then 0 else 2) else 1) := fun b1 b2 b3 e1 e2 e3 => by unfold renCode; rw [e1, e2, e3]
  have HRS : Hid (renRes x ins n = if renCode x ins n = 0 then renL x ins n.toNat else []) := rfl
  generalize renRes x ins n = R at HRS ⊢
  generalize renCode x ins n = C at HRS HC RD ⊢
  generalize renL x ins n.toNat = RL at HRS RD
  have HE := Lib.hid hE
  have HG := Lib.hid hg
  clear hE hg h hp hpE
  generalize okB x = b1 at OK HC
  generalize sigsB x ins = b2 at SG HC
  generalize inB n 0 4000 = b3 at IN HC
  have HC1 := Lib.hid (HC.out b1 b2 b3 rfl rfl rfl)
  clear HC
  go_enter Try.func8, Try.ntmps8
  go_upto_region 1 with fail
  rw [← HE.out, ← HG.out]
  go_wp2_with fail
  refine OK.out.mono ?_
  rintro e W1 ⟨rfl, hb1⟩
  cases b1
  · obtain rfl : C = 1 := HC1.out
    obtain rfl : R = [] := by rw [HRS.out, if_neg (by omega)]
    clear HC1 HRS RD
    go_wp2_with fail
    refine bodyPost_ret (v := .tuple #[.slice none 0 0, .int .i64 1]) (by simp [results, Try.results8, go_sem, *]) rfl ?_
    exact ⟨_, [], rfl, OwnII.nil0 _ _, hB.trans (hb1.mono hB.size)⟩
  go_wp2_with fail
  refine (SG.out W1 hb1).mono ?_
  rintro e W2 ⟨rfl, hb2⟩
  have hb12 := hb1.trans (hb2.mono hb1.size)
  cases b2
  · obtain rfl : C = 2 := HC1.out
    obtain rfl : R = [] := by rw [HRS.out, if_neg (by omega)]
    clear HC1 HRS RD
    go_wp2_with fail
    refine bodyPost_ret (v := .tuple #[.slice none 0 0, .int .i64 2]) (by simp [results, Try.results8, go_sem, *]) rfl ?_
    exact ⟨_, [], rfl, OwnII.nil0 _ _, hB.trans (hb12.mono hB.size)⟩
  cases b3
  · obtain rfl : C = 2 := HC1.out
    obtain rfl : R = [] := by rw [HRS.out, if_neg (by omega)]
    clear HC1 HRS RD
    go_wp2_with (first | (go_at_call 25; refine (IN.out _).mono ?_; rintro e w' ⟨rfl, rfl⟩) | fail)
    refine bodyPost_ret (v := .tuple #[.slice none 0 0, .int .i64 2]) (by simp [results, Try.results8, go_sem, *]) rfl ?_
    exact ⟨_, [], rfl, OwnII.nil0 _ _, hB.trans (hb12.mono hB.size)⟩
  · obtain rfl : C = 0 := HC1.out
    obtain rfl : R = RL := by rw [HRS.out, if_pos rfl]
    have RD1 := Lib.hid (RD.out rfl)
    clear HC1 HRS RD
    go_wp2_with (first | (go_at_call 25; refine (IN.out _).mono ?_; rintro e w' ⟨rfl, rfl⟩) | fail)
    refine (RD1.out W2 hb12).mono ?_
    rintro e W3 ⟨u, L, rfl, ho, hb3⟩
    obtain ⟨q, c, rfl, -⟩ := ho.rd
    go_wp2_with fail
    refine bodyPost_ret (v := .tuple #[.slice q R.length c, .int .i64 0]) (by simp [results, Try.results8, go_sem, *]) rfl ?_
    exact ⟨_, L, rfl, ho.mono (Nat.le_trans hB.size hb12.size), hB.trans ((hb12.trans (hb3.mono hb12.size)).mono hB.size)⟩
end Go.Proofs.Ytdjoaaccnadccaa

namespace Go.Proofs.Ytdjoaaccnadccaa
open Go.ChangeShapes Go.WideShapes Go.ChangeAt Go.RowKit Go.Sort
set_option linter.unusedVariables false
set_option linter.unusedSimpArgs false

theorem b10Long_any (p : Option Addr) (n c : Nat) (w : World) (hn : n ≤ maxLen) :
    Calls Try.prog 4 #[.slice p n c] w fun e w' => e = .returned (.bool (decide (1048576 < (n : Int)))) ∧ w' = w := by
  unfold maxLen at hn
  go_enter Try.func4, Try.ntmps4
  go_wp2
  go_ret
  exact ⟨rfl, rfl⟩
theorem b10At_any {v : Value} {bs : List Int} (k : Nat) (n : Int) (w : World) (h : VB w v bs) (hl : bs.length ≤ 1048576) (hk : k ≤ 100000) (hn : 1 ≤ n) (hn2 : n ≤ 100000) :
    Calls Try.prog 7 #[v, .int .i64 (k : Int), .int .i64 n] w fun e w' => ∃ r, 0 ≤ r ∧ r < n ∧ e = .returned (.int .i64 r) ∧ w = w' := by
  obtain ⟨p, c, rfl, hr⟩ := h
  by_cases h0 : n ≤ 1
  · go_enter Try.func7, Try.ntmps7
    go_wp2_with fail
    go_ret
    exact ⟨0, by omega, by omega, rfl, rfl⟩
  by_cases h1 : k < bs.length
  · obtain ⟨b, o, rfl, hb, hc⟩ := hr.pos h1
    have hk0 := hc k h1
    have hx := hr.bytes _ (List.getElem_mem h1)
    generalize bs[k] = x at hk0 hx
    have q1 : 0 ≤ x := hx.1
    have q2 : x ≤ 255 := hx.2
    clear hx hc
    have r1 : 0 ≤ x % n := Int.emod_nonneg _ (by omega)
    have r2 : x % n < n := Int.emod_lt_of_pos _ (by omega)
    go_enter Try.func7, Try.ntmps7
    go_wp2_with fail
    go_ret
    exact ⟨_, r1, r2, rfl, rfl⟩
  · have r1 : 0 ≤ ((k : Int) * 37 + 11) % n := Int.emod_nonneg _ (by omega)
    have r2 : ((k : Int) * 37 + 11) % n < n := Int.emod_lt_of_pos _ (by omega)
    go_enter Try.func7, Try.ntmps7
    go_wp2_with fail
    go_ret
    exact ⟨_, r1, r2, rfl, rfl⟩
set_option maxHeartbeats 2000000 in
theorem b10Nums_true {p q : Option Addr} {c d : Nat} {xs : List Int} (w : World) (h : RdI w p xs) (h' : RdI w q xs) (hl : xs.length ≤ 1048576) :
    Calls Try.prog 27 #[.slice p xs.length c, .slice q xs.length d] w fun e w' => e = .returned (.bool true) ∧ Below w.heap.size w w' := by
  go_enter Try.func27, Try.ntmps27
  go_wp2_with fail
  go_loopw [5] (fun i wr => ∃ k : Nat, k ≤ xs.length ∧ i = .int .i64 (k : Int) ∧ Drawn w wr) (fun i _ => xs.length - (intOf i).toNat)
  case atStart => exact ⟨0, Nat.zero_le _, rfl, Drawn.refl _⟩
  case round =>
    obtain ⟨k, hk, rfl, hdr⟩ := hrel
    by_cases hlt : k < xs.length
    · obtain ⟨b, o, rfl, hb, hc⟩ := (hdr.rdI h).pos hlt
      obtain ⟨b', o', rfl, hb', hc'⟩ := (hdr.rdI h').pos hlt
      have z1 := hc k hlt
      have z2 := hc' k hlt
      generalize xs[k] = x at z1 z2
      clear hc hc'
      go_wp2_with fail
      go_quiet (fail)
      go_wp2_with fail
      go_roundw
      case rel => exact ⟨k + 1, by omega, by go_num, hdr.on _⟩
      case measure => simp [intOf] <;> omega
    · obtain rfl : k = xs.length := by omega
      go_wp2_with fail
      go_ret
      obtain ⟨m, rfl⟩ := hdr
      exact ⟨rfl, below_drewN (Below.refl _ _) m⟩
set_option maxHeartbeats 2000000 in
theorem b10Lists_true {p q : Option Addr} {c d : Nat} {xss : List (List Int)} (w : World) (h : RdII w p xss) (h' : RdII w q xss) (hl : xss.length ≤ 1048576) (hr : ∀ a ∈ xss, a.length ≤ 1048576) :
    Calls Try.prog 9 #[.slice p xss.length c, .slice q xss.length d] w fun e w' => e = .returned (.bool true) ∧ Below w.heap.size w w' := by
  go_enter Try.func9, Try.ntmps9
  go_wp2_with fail
  go_loopw [5] (fun i wr => ∃ k : Nat, k ≤ xss.length ∧ i = .int .i64 (k : Int) ∧ Below w.heap.size w wr) (fun i _ => xss.length - (intOf i).toNat)
  case atStart => exact ⟨0, Nat.zero_le _, rfl, Below.refl _ _⟩
  case round =>
    obtain ⟨k, hk, rfl, hbel⟩ := hrel
    obtain ⟨wi, rfl⟩ : ∃ W : World, W = wr := ⟨_, rfl⟩
    have hsz := hbel.size
    by_cases hlt : k < xss.length
    · obtain ⟨b, o, q1, c1, rfl, hb, hrow, hrr⟩ := (h.below hbel).at0 hlt
      obtain ⟨b', o', q2, c2, rfl, hb', hrow', hrr'⟩ := (h'.below hbel).at0 hlt
      have hg : xss.getD k [] = xss[k] := by rw [List.getD_eq_getElem?_getD, List.getElem?_eq_getElem hlt]; rfl
      have hra : (xss.getD k []).length ≤ 1048576 := by rw [hg]; exact hr _ (List.getElem_mem hlt)
      clear hg
      generalize xss.getD k [] = row at hrow hrow' hrr hrr' hra
      have KN : Hid (∀ W, Below wi.heap.size wi W → Calls Try.prog 27 #[.slice q1 row.length c1, .slice q2 row.length c2] W fun e w' => e = .returned (.bool true) ∧ Below W.heap.size W w') := fun W hW => b10Nums_true W (hrr.below hW) (hrr'.below hW) hra
      have CK : Hid (∀ W, Below wi.heap.size wi W → W.cell? ⟨b, o + k, none⟩ = some (.slice q1 row.length c1) ∧ W.cell? ⟨b', o' + k, none⟩ = some (.slice q2 row.length c2)) := fun W hW => ⟨(hW.cell (p := ⟨b, o + k, none⟩) hb).trans hrow, (hW.cell (p := ⟨b', o' + k, none⟩) hb').trans hrow'⟩
      have hcur := belowDrew wi
      clear hrr hrr' hra
      go_wp2_with fail
      go_region_held3 (fun W => W.cell? ⟨b, o + k, none⟩ = some (.slice q1 row.length c1) ∧ W.cell? ⟨b', o' + k, none⟩ = some (.slice q2 row.length c2)) (first | go_keep | exact CK.out _ (by (repeat (first | exact Below.refl _ _ | assumption | refine Below.setCell ?_ (by first | exact Nat.le_refl _ | omega | (simp; done) | (simp; omega)) _ | refine Below.alloc ?_ (by first | exact Nat.le_refl _ | omega | (simp; done) | (simp; omega)) _ | refine below_drewN ?_ _)))) ((first | (go_at_call 27; refine (KN.out _ hcur).mono ?_; rintro e W2 ⟨rfl, hb9⟩; have hcur := hcur.trans (hb9.mono hcur.size)) | fail))
      all_goals
        go_wp2_with fail
        go_roundw
        case rel => exact ⟨k + 1, by omega, by go_num, hbel.trans (hcur.mono hsz)⟩
        case measure => simp [intOf] <;> omega
    · obtain rfl : k = xss.length := by omega
      go_wp2_with fail
      go_ret
      exact ⟨rfl, hbel⟩
end Go.Proofs.Ytdjoaaccnadccaa

namespace Go.Proofs.Ytdjoaaccnadccaa
set_option linter.unusedVariables false

theorem kAr_le3 : ∀ i, i < 17 → kAr i ≤ 3 := by decide
theorem src_le3 {x : NodeD} {t : Int} (h : nodeB x t = true) : x.src.length ≤ 3 := by
  unfold nodeB at h
  simp only [Bool.and_eq_true, decide_eq_true_eq] at h
  obtain ⟨i, hi, he⟩ := kind_of_in h.1.1.1.1
  have h1 := h.1.2
  rw [he, show ((i : Int) + 1 - 1).toNat = i by omega] at h1
  have := kAr_le3 i hi
  omega
theorem waits_le3 {x : NodeD} {t : Int} (h : nodeB x t = true) : (waits x).length ≤ 3 := by
  have := src_le3 h
  unfold waits
  split
  · simp
  · exact this
/-- what a node has in From -/
def srcs (nodes : List NodeD) (i : Int) : List Int := (nodes.getD i.toNat ⟨0, 0, 0, []⟩).src
/-- marks are set, a queue is worked off -/
def qrun (nodes : List NodeD) : Nat → List Bool → List Int → List Bool
  | 0, m, _ => m
  | _ + 1, m, [] => m
  | f + 1, m, i :: t => if m.getD i.toNat false then qrun nodes f m t else qrun nodes f (m.set i.toNat true) (t ++ srcs nodes i)
/-- how many marks are not set -/
def unm : List Bool → Nat
  | [] => 0
  | b :: m => (if b then 0 else 1) + unm m
theorem unm_set : ∀ (m : List Bool) (k : Nat), k < m.length → m.getD k false = false → unm (m.set k true) + 1 = unm m
  | [], k, h, _ => by simp at h
  | b :: m, 0, _, h => by
    simp only [List.getD_cons_zero] at h
    subst h
    simp only [List.set_cons_zero, unm, if_true, Bool.false_eq_true, if_false]
    omega
  | b :: m, k + 1, h, hk => by
    simp only [List.getD_cons_succ] at hk
    have := unm_set m k (by simpa using h) hk
    simp only [List.set_cons_succ, unm]
    omega
theorem unm_false : ∀ n, unm (List.replicate n false) = n
  | 0 => rfl
  | n + 1 => by rw [List.replicate_succ, unm, unm_false n]; simp; omega
theorem getD_set_self {m : List Bool} {k : Nat} (h : k < m.length) : (m.set k true).getD k false = true := by
  rw [List.getD_eq_getElem?_getD, List.getElem?_set_self h]; rfl
theorem getD_set_ne {m : List Bool} {k j : Nat} (h : k ≠ j) : (m.set k true).getD j false = m.getD j false := by
  rw [List.getD_eq_getElem?_getD, List.getElem?_set_ne h, ← List.getD_eq_getElem?_getD]
theorem getD_lt {m : List Bool} {k : Nat} (h : m.getD k false = true) : k < m.length := by
  rcases Nat.lt_or_ge k m.length with h1 | h1
  · exact h1
  · rw [List.getD_eq_getElem?_getD, List.getElem?_eq_none h1] at h; cases h

/-- the sources of all nodes lie in the patch, three at most each -/
structure SrcOk (nodes : List NodeD) : Prop where
  rng : ∀ x ∈ nodes, ∀ s ∈ x.src, 0 ≤ s ∧ s < (nodes.length : Int)
  len : ∀ x ∈ nodes, x.src.length ≤ 3
theorem srcs_rng {nodes : List NodeD} (h : SrcOk nodes) {i s : Int} (hs : s ∈ srcs nodes i) : 0 ≤ s ∧ s < (nodes.length : Int) := by
  unfold srcs at hs
  rcases Nat.lt_or_ge i.toNat nodes.length with h1 | h1
  · rw [List.getD_eq_getElem?_getD, List.getElem?_eq_getElem h1] at hs
    exact h.rng _ (List.getElem_mem h1) s hs
  · rw [List.getD_eq_getElem?_getD, List.getElem?_eq_none h1] at hs
    simp at hs
theorem srcs_len {nodes : List NodeD} (h : SrcOk nodes) (i : Int) : (srcs nodes i).length ≤ 3 := by
  unfold srcs
  rcases Nat.lt_or_ge i.toNat nodes.length with h1 | h1
  · rw [List.getD_eq_getElem?_getD, List.getElem?_eq_getElem h1]
    exact h.len _ (List.getElem_mem h1)
  · rw [List.getD_eq_getElem?_getD, List.getElem?_eq_none h1]
    simp
/-- a set of nodes with all that they have in From -/
def Shut (nodes : List NodeD) (S : Int → Prop) : Prop := ∀ i, 0 ≤ i → i < (nodes.length : Int) → S i → ∀ s ∈ srcs nodes i, S s
def mk (m : List Bool) (i : Int) : Prop := m.getD i.toNat false = true
structure QEnd (nodes : List NodeD) (m : List Bool) (t : List Int) (R : List Bool) : Prop where
  len : R.length = nodes.length
  old : ∀ i, mk m i → mk R i
  todo : ∀ i ∈ t, mk R i
  shut : Shut nodes (mk R)
  least : ∀ S : Int → Prop, Shut nodes S → (∀ i, 0 ≤ i → i < (nodes.length : Int) → mk m i → S i) → (∀ i ∈ t, S i) → ∀ i, 0 ≤ i → i < (nodes.length : Int) → mk R i → S i
theorem qrun_end {nodes : List NodeD} (ok : SrcOk nodes) : ∀ (f : Nat) (m : List Bool) (t : List Int), m.length = nodes.length → (∀ i ∈ t, 0 ≤ i ∧ i < (nodes.length : Int)) → 4 * unm m + t.length ≤ f →
    (∀ i, 0 ≤ i → i < (nodes.length : Int) → mk m i → ∀ s ∈ srcs nodes i, mk m s ∨ s ∈ t) → QEnd nodes m t (qrun nodes f m t)
  | 0, m, t, hl, ht, hf, hc => by
    obtain rfl : t = [] := List.eq_nil_of_length_eq_zero (by omega)
    exact ⟨hl, fun _ h => h, by simp, fun i h0 h1 h2 s hs => (hc i h0 h1 h2 s hs).elim id (fun h => by simp at h), fun S _ h _ i h0 h1 h2 => h i h0 h1 h2⟩
  | f + 1, m, [], hl, ht, hf, hc =>
    ⟨hl, fun _ h => h, by simp, fun i h0 h1 h2 s hs => (hc i h0 h1 h2 s hs).elim id (fun h => by simp at h), fun S _ h _ i h0 h1 h2 => h i h0 h1 h2⟩
  | f + 1, m, i :: t, hl, ht, hf, hc => by
    obtain ⟨hi0, hi1⟩ := ht i (List.mem_cons_self ..)
    have ht' : ∀ j ∈ t, 0 ≤ j ∧ j < (nodes.length : Int) := fun j hj => ht j (List.mem_cons_of_mem _ hj)
    simp only [List.length_cons] at hf
    unfold qrun
    split
    · rename_i hm
      have E := qrun_end ok f m t hl ht' (by omega) (fun j h0 h1 h2 s hs => (hc j h0 h1 h2 s hs).elim .inl fun h => by
        rcases List.mem_cons.1 h with rfl | h
        · exact .inl hm
        · exact .inr h)
      exact ⟨E.len, E.old, fun j hj => by
        rcases List.mem_cons.1 hj with rfl | hj
        · exact E.old _ hm
        · exact E.todo j hj, E.shut, fun S hS h1 h2 => E.least S hS h1 fun j hj => h2 j (List.mem_cons_of_mem _ hj)⟩
    · rename_i hm
      have hmf : m.getD i.toNat false = false := by simpa using hm
      have hk : i.toNat < m.length := by omega
      have hu := unm_set m i.toNat hk hmf
      have hs3 := srcs_len ok i
      have hmi : mk (m.set i.toNat true) i := getD_set_self hk
      have hmo : ∀ j, mk m j → mk (m.set i.toNat true) j := fun j hj => by
        unfold mk
        by_cases e : i.toNat = j.toNat
        · rw [e]; exact getD_set_self (by rw [← e]; exact hk)
        · rw [getD_set_ne e]; exact hj
      have hmn : ∀ j, 0 ≤ j → mk (m.set i.toNat true) j → j = i ∨ mk m j := fun j h0 hj => by
        unfold mk at hj
        by_cases e : i.toNat = j.toNat
        · left; omega
        · rw [getD_set_ne e] at hj; exact .inr hj
      have E := qrun_end ok f (m.set i.toNat true) (t ++ srcs nodes i) (by rw [List.length_set, hl])
        (fun j hj => by
          rcases List.mem_append.1 hj with hj | hj
          · exact ht' j hj
          · exact srcs_rng ok hj)
        (by rw [List.length_append]; omega)
        (fun j h0 h1 h2 s hs => by
          rcases hmn j h0 h2 with rfl | h2
          · exact .inr (List.mem_append_right _ hs)
          · rcases hc j h0 h1 h2 s hs with h | h
            · exact .inl (hmo s h)
            · rcases List.mem_cons.1 h with rfl | h
              · exact .inl hmi
              · exact .inr (List.mem_append_left _ h))
      refine ⟨E.len, fun j hj => E.old j (hmo j hj), fun j hj => ?_, E.shut, fun S hS h1 h2 => E.least S hS (fun j h0 hj1 hj => ?_) fun j hj => ?_⟩
      · rcases List.mem_cons.1 hj with rfl | hj
        · exact E.old _ hmi
        · exact E.todo j (List.mem_append_left _ hj)
      · rcases hmn j h0 hj with rfl | hj
        · exact h2 _ (List.mem_cons_self ..)
        · exact h1 j h0 hj1 hj
      · rcases List.mem_append.1 hj with hj | hj
        · exact h2 j (List.mem_cons_of_mem _ hj)
        · exact hS i hi0 hi1 (h2 i (List.mem_cons_self ..)) j hj
def marksL (nodes : List NodeD) (outs : List Int) : List Bool := qrun nodes (4 * nodes.length + outs.length) (List.replicate nodes.length false) outs
theorem mk_none (n : Nat) (i : Int) : ¬ mk (List.replicate n false) i := by
  unfold mk
  rw [List.getD_eq_getElem?_getD, List.getElem?_replicate]
  split <;> simp
theorem marksL_end {nodes : List NodeD} (ok : SrcOk nodes) {outs : List Int} (ho : ∀ i ∈ outs, 0 ≤ i ∧ i < (nodes.length : Int)) : QEnd nodes (List.replicate nodes.length false) outs (marksL nodes outs) :=
  qrun_end ok _ _ _ (by simp) ho (by rw [unm_false]; omega) fun i _ _ h => absurd h (mk_none _ _)
/-- the first k marks, as places -/
def ups (m : List Bool) (k : Nat) : List Int := ((List.range k).filter fun i => m.getD i false).map fun i => ((i : Nat) : Int)
theorem ups_succ (m : List Bool) (k : Nat) {b : Bool} (hb : m.getD k false = b) : ups m (k + 1) = ups m k ++ (if b then [(k : Int)] else []) := by
  unfold ups
  rw [List.range_succ, List.filter_append, List.map_append]
  congr 1
  cases b
  · have e : List.filter (fun i => m.getD i false) [k] = [] := by rw [List.filter_cons_of_neg (by rw [hb]; simp)]; rfl
    rw [e]; rfl
  · have e : List.filter (fun i => m.getD i false) [k] = [k] := by rw [List.filter_cons_of_pos (p := fun i => m.getD i false) hb]; rfl
    rw [e]; rfl
theorem ups_length (m : List Bool) (k : Nat) : (ups m k).length ≤ k := by
  unfold ups
  rw [List.length_map]
  have := List.length_filter_le (fun i => m.getD i false) (List.range k)
  rwa [List.length_range] at this
theorem mem_ups {m : List Bool} {k : Nat} {i : Int} : i ∈ ups m k ↔ 0 ≤ i ∧ i < (k : Int) ∧ mk m i := by
  unfold ups mk
  simp only [List.mem_map, List.mem_filter, List.mem_range]
  constructor
  · rintro ⟨a, ⟨h1, h2⟩, rfl⟩
    exact ⟨by omega, by omega, by simpa using h2⟩
  · rintro ⟨h1, h2, h3⟩
    exact ⟨i.toNat, ⟨by omega, h3⟩, by omega⟩
def Rising (xs : List Int) : Prop := xs.Pairwise (· < ·)
theorem ups_rising (m : List Bool) (k : Nat) : Rising (ups m k) := by
  unfold Rising ups
  rw [List.pairwise_map]
  exact ((List.pairwise_lt_range (n := k)).filter _).imp fun h => by omega
theorem rising_ext : ∀ {xs ys : List Int}, Rising xs → Rising ys → (∀ i, i ∈ xs ↔ i ∈ ys) → xs = ys
  | [], [], _, _, _ => rfl
  | [], y :: ys, _, _, h => by have := (h y).2 (List.mem_cons_self ..); simp at this
  | x :: xs, [], _, _, h => by have := (h x).1 (List.mem_cons_self ..); simp at this
  | x :: xs, y :: ys, hx, hy, h => by
    have hx' := List.pairwise_cons.1 hx
    have hy' := List.pairwise_cons.1 hy
    have e : x = y := by
      have h1 := List.mem_cons.1 ((h x).1 (List.mem_cons_self ..))
      have h2 := List.mem_cons.1 ((h y).2 (List.mem_cons_self ..))
      rcases h1 with h1 | h1
      · exact h1
      · rcases h2 with h2 | h2
        · exact h2.symm
        · have a := hx'.1 y h2
          have b := hy'.1 x h1
          omega
    subst e
    refine congrArg _ (rising_ext hx'.2 hy'.2 fun i => ?_)
    have hi := h i
    simp only [List.mem_cons] at hi
    constructor
    · intro hm
      rcases hi.1 (.inr hm) with rfl | h1
      · have := hx'.1 _ hm; omega
      · exact h1
    · intro hm
      rcases hi.2 (.inr hm) with rfl | h1
      · have := hy'.1 _ hm; omega
      · exact h1
theorem rising_len : ∀ {xs : List Int} {a : Int} {n : Nat}, Rising xs → (∀ i ∈ xs, a ≤ i ∧ i < a + n) → xs.length ≤ n
  | [], _, _, _, _ => Nat.zero_le _
  | x :: xs, a, n, hx, h => by
    have hx' := List.pairwise_cons.1 hx
    have h0 := h x (List.mem_cons_self ..)
    obtain ⟨m, rfl⟩ : ∃ m, n = m + 1 := ⟨n - 1, by omega⟩
    have := rising_len (xs := xs) (a := x + 1) (n := m) hx'.2 fun i hi => by
      have h1 := hx'.1 i hi
      have h2 := h i (List.mem_cons_of_mem _ hi)
      omega
    simp only [List.length_cons]
    omega
/-- the nodes that outputs need -/
def need (x : PatchD) : List Int := ups (marksL x.nodes x.outputs) x.nodes.length
/-! ### the reference's way -/
def putR : List Int → Int → List Int
  | [], n => [n]
  | y :: ys, n => if n ≤ y then (if n < y then n :: y :: ys else y :: ys) else y :: putR ys n
theorem mem_putR {n i : Int} : ∀ {l : List Int}, i ∈ putR l n ↔ i = n ∨ i ∈ l
  | [] => by simp [putR]
  | y :: ys => by
    unfold putR
    split
    · split
      · simp
      · obtain rfl : n = y := by omega
        simp
    · simp only [List.mem_cons, mem_putR (l := ys)]
      constructor
      · rintro (h | h | h)
        · exact .inr (.inl h)
        · exact .inl h
        · exact .inr (.inr h)
      · rintro (h | h | h)
        · exact .inr (.inl h)
        · exact .inl h
        · exact .inr (.inr h)
theorem putR_rising {n : Int} : ∀ {l : List Int}, Rising l → Rising (putR l n)
  | [], _ => by simp [putR, Rising]
  | y :: ys, h => by
    have h' := List.pairwise_cons.1 h
    unfold putR
    split
    · split
      · refine List.pairwise_cons.2 ⟨fun i hi => ?_, h⟩
        rcases List.mem_cons.1 hi with rfl | hi
        · assumption
        · have := h'.1 i hi; omega
      · exact h
    · refine List.pairwise_cons.2 ⟨fun i hi => ?_, putR_rising h'.2⟩
      rcases mem_putR.1 hi with rfl | hi
      · omega
      · exact h'.1 i hi
theorem putR_or {n : Int} : ∀ (l : List Int), putR l n = l ∨ (putR l n).length = l.length + 1
  | [] => .inr rfl
  | y :: ys => by
    unfold putR
    split
    · split
      · exact .inr rfl
      · exact .inl rfl
    · rcases putR_or (n := n) ys with h | h
      · exact .inl (by rw [h])
      · exact .inr (by simp [h])
def putAll (out : List Int) (l : List Int) : List Int := l.foldl putR out
def rndL (nodes : List NodeD) : List Int → List Int → List Int
  | out, [] => out
  | out, i :: is => rndL nodes (putAll out (srcs nodes i)) is
def sat (nodes : List NodeD) : Nat → List Int → List Int
  | 0, out => out
  | f + 1, out => if (rndL nodes out out).length > out.length then sat nodes f (rndL nodes out out) else rndL nodes out out
theorem putAll_mem {i : Int} : ∀ {l out : List Int}, i ∈ putAll out l ↔ i ∈ out ∨ i ∈ l
  | [], out => by simp [putAll]
  | y :: ys, out => by
    show i ∈ putAll (putR out y) ys ↔ _
    rw [putAll_mem, mem_putR, List.mem_cons]
    constructor
    · rintro ((h | h) | h)
      · exact .inr (.inl h)
      · exact .inl h
      · exact .inr (.inr h)
    · rintro (h | h | h)
      · exact .inl (.inr h)
      · exact .inl (.inl h)
      · exact .inr h
theorem putAll_rising : ∀ {l out : List Int}, Rising out → Rising (putAll out l)
  | [], out, h => h
  | y :: ys, out, h => putAll_rising (l := ys) (putR_rising h)
theorem putAll_or : ∀ (l out : List Int), putAll out l = out ∨ out.length < (putAll out l).length
  | [], out => .inl rfl
  | y :: ys, out => by
    show putAll (putR out y) ys = out ∨ out.length < (putAll (putR out y) ys).length
    rcases putR_or (n := y) out with h | h
    · rw [h]; exact putAll_or ys out
    · rcases putAll_or ys (putR out y) with h' | h'
      · rw [h']; right; omega
      · right; omega
theorem rndL_mem {nodes : List NodeD} {i : Int} : ∀ {is out : List Int}, i ∈ rndL nodes out is ↔ i ∈ out ∨ ∃ j ∈ is, i ∈ srcs nodes j
  | [], out => by simp [rndL]
  | j :: is, out => by
    rw [rndL, rndL_mem, putAll_mem]
    simp only [List.mem_cons, exists_eq_or_imp]
    constructor
    · rintro ((h | h) | h)
      · exact .inl h
      · exact .inr (.inl h)
      · exact .inr (.inr h)
    · rintro (h | h | h)
      · exact .inl (.inl h)
      · exact .inl (.inr h)
      · exact .inr h
theorem rndL_rising {nodes : List NodeD} : ∀ {is out : List Int}, Rising out → Rising (rndL nodes out is)
  | [], out, h => h
  | j :: is, out, h => rndL_rising (is := is) (putAll_rising h)
theorem rndL_or {nodes : List NodeD} : ∀ (is out : List Int), rndL nodes out is = out ∨ out.length < (rndL nodes out is).length
  | [], out => .inl rfl
  | j :: is, out => by
    rw [rndL]
    rcases putAll_or (srcs nodes j) out with h | h
    · rw [h]; exact rndL_or is out
    · rcases rndL_or (nodes := nodes) is (putAll out (srcs nodes j)) with h' | h'
      · rw [h']; right; exact h
      · right; omega
structure SEnd (nodes : List NodeD) (out L : List Int) : Prop where
  rising : Rising L
  rng : ∀ i ∈ L, 0 ≤ i ∧ i < (nodes.length : Int)
  old : ∀ i ∈ out, i ∈ L
  shut : ∀ i ∈ L, ∀ s ∈ srcs nodes i, s ∈ L
  least : ∀ S : Int → Prop, Shut nodes S → (∀ i ∈ out, S i) → ∀ i ∈ L, S i
theorem rndL_rng {nodes : List NodeD} (ok : SrcOk nodes) {out is : List Int} (h : ∀ i ∈ out, 0 ≤ i ∧ i < (nodes.length : Int)) : ∀ i ∈ rndL nodes out is, 0 ≤ i ∧ i < (nodes.length : Int) := fun i hi => by
  rcases rndL_mem.1 hi with hi | ⟨j, _, hi⟩
  · exact h i hi
  · exact srcs_rng ok hi
theorem sat_end {nodes : List NodeD} (ok : SrcOk nodes) : ∀ (f : Nat) (out : List Int), Rising out → (∀ i ∈ out, 0 ≤ i ∧ i < (nodes.length : Int)) → nodes.length < f + out.length → SEnd nodes out (sat nodes f out)
  | 0, out, hr, hg, hf => by
    have := rising_len (a := 0) (n := nodes.length) hr fun i hi => by have := hg i hi; omega
    omega
  | f + 1, out, hr, hg, hf => by
    unfold sat
    have hg' := rndL_rng ok (is := out) hg
    split
    · have E := sat_end ok f (rndL nodes out out) (rndL_rising hr) hg' (by omega)
      refine ⟨E.rising, E.rng, fun i hi => E.old i (rndL_mem.2 (.inl hi)), E.shut, fun S hS h => E.least S hS fun i hi => ?_⟩
      rcases rndL_mem.1 hi with hi | ⟨j, hj, hi⟩
      · exact h i hi
      · exact hS j (hg j hj).1 (hg j hj).2 (h j hj) i hi
    · rcases rndL_or (nodes := nodes) out out with h | h
      · rw [h]
        refine ⟨hr, hg, fun i hi => hi, fun i hi s hs => ?_, fun S _ h => h⟩
        have : s ∈ rndL nodes out out := rndL_mem.2 (.inr ⟨i, hi, hs⟩)
        rwa [h] at this
      · omega
def needL (nodes : List NodeD) (outs : List Int) : List Int := sat nodes (nodes.length + 1) (putAll [] outs)
theorem needL_eq {x : PatchD} (ok : SrcOk x.nodes) (ho : ∀ i ∈ x.outputs, 0 ≤ i ∧ i < (x.nodes.length : Int)) : needL x.nodes x.outputs = need x := by
  have E := sat_end ok (x.nodes.length + 1) (putAll [] x.outputs) (putAll_rising (by simp [Rising])) (fun i hi => by
    rcases putAll_mem.1 hi with h | h
    · simp at h
    · exact ho i h) (by omega)
  have M := marksL_end ok ho
  refine rising_ext E.rising (ups_rising _ _) fun i => ?_
  refine Iff.trans ?_ mem_ups.symm
  constructor
  · intro hi
    have hr := E.rng i hi
    refine ⟨hr.1, hr.2, E.least (mk (marksL x.nodes x.outputs)) M.shut (fun j hj => ?_) i hi⟩
    rcases putAll_mem.1 hj with h | h
    · simp at h
    · exact M.todo j h
  · rintro ⟨h0, h1, h2⟩
    exact M.least (· ∈ needL x.nodes x.outputs) (fun j _ _ hj s hs => E.shut j hj s hs) (fun j _ _ h => absurd h (mk_none _ _)) (fun j hj => E.old j (putAll_mem.2 (.inr hj))) i h0 h1 h2
theorem need_rng {x : PatchD} : ∀ i ∈ need x, 0 ≤ i ∧ i < (x.nodes.length : Int) := fun i hi => ⟨(mem_ups.1 hi).1, (mem_ups.1 hi).2.1⟩
theorem need_length (x : PatchD) : (need x).length ≤ x.nodes.length := ups_length _ _
def okCode (x : PatchD) : Int := if okB x then 0 else 1
theorem okB_n24 {x : PatchD} (h : okB x = true) : x.nodes.length ≤ 24 := by
  unfold okB at h
  rw [Bool.and_eq_true] at h
  exact (formed_iff.1 h.1).2.2.1
theorem formed_src {x : PatchD} (h : formedB x = true) : SrcOk x.nodes := by
  have hf := (formed_iff.1 h).2.2.2.2.1
  refine ⟨fun y hy s hs => ndB_src (hf y hy) s hs, fun y hy => ?_⟩
  have h1 := hf y hy
  unfold ndB at h1
  simp only [Bool.and_eq_true] at h1
  exact src_le3 h1.1.1
theorem formed_outs {x : PatchD} (h : formedB x = true) : ∀ i ∈ x.outputs, 0 ≤ i ∧ i < (x.nodes.length : Int) := (formed_iff.1 h).2.2.2.2.2
end Go.Proofs.Ytdjoaaccnadccaa

namespace Go.Proofs.Ytdjoaaccnadccaa
set_option linter.unusedVariables false

def putBy : List Int → Nat → List Int → List Int
  | b, _, [] => b
  | b, j, i :: r => putBy (b.set i.toNat (j : Int)) (j + 1) r
theorem putBy_length : ∀ (b : List Int) (j : Nat) (r : List Int), (putBy b j r).length = b.length
  | b, _, [] => rfl
  | b, j, i :: r => by rw [putBy, putBy_length, List.length_set]
theorem putBy_drop {b : List Int} {keep : List Int} {k m : Nat} (h : k < keep.length) (hm : keep[k] = (m : Int)) : putBy b k (keep.drop k) = putBy (b.set m (k : Int)) (k + 1) (keep.drop (k + 1)) := by
  rw [List.drop_eq_getElem_cons h, putBy, hm, Int.toNat_natCast]
def byL (n : Nat) (keep : List Int) : List Int := putBy (List.replicate n 0) 0 keep
theorem byL_length (n : Nat) (keep : List Int) : (byL n keep).length = n := by unfold byL; rw [putBy_length, List.length_replicate]
/-- what lies in by are places of keep -/
theorem putBy_rng : ∀ (b : List Int) (j : Nat) (r : List Int) (N : Int), (∀ x ∈ b, 0 ≤ x ∧ x < N) → (j : Int) + r.length ≤ N → ∀ x ∈ putBy b j r, 0 ≤ x ∧ x < N
  | b, _, [], N, h, _ => h
  | b, j, i :: r, N, h, hN => by
    simp only [List.length_cons] at hN
    refine putBy_rng _ (j + 1) r N (fun x hx => ?_) (by omega)
    rcases List.mem_or_eq_of_mem_set hx with hx | rfl
    · exact h x hx
    · omega
theorem byL_rng {n : Nat} {keep : List Int} {N : Nat} (h : keep.length ≤ N) (h0 : 0 < N) : ∀ x ∈ byL n keep, 0 ≤ x ∧ x < (N : Int) := by
  refine putBy_rng _ 0 keep N (fun x hx => ?_) (by omega)
  rw [(List.mem_replicate.1 hx).2]; omega
theorem mapL_rng {by_ xs : List Int} {N : Nat} (h : ∀ x ∈ by_, 0 ≤ x ∧ x < (N : Int)) (h0 : 0 < N) : ∀ x ∈ mapL by_ xs, 0 ≤ x ∧ x < (N : Int) := by
  intro x hx
  unfold mapL at hx
  obtain ⟨i, _, rfl⟩ := List.mem_map.1 hx
  rcases Nat.lt_or_ge i.toNat by_.length with h1 | h1
  · rw [List.getD_eq_getElem?_getD, List.getElem?_eq_getElem h1]; exact h _ (List.getElem_mem h1)
  · rw [List.getD_eq_getElem?_getD, List.getElem?_eq_none h1]; simp; omega
def nodeAt (nodes : List NodeD) (i : Int) : NodeD := nodes.getD i.toNat ⟨0, 0, 0, []⟩
def keepN (nodes : List NodeD) (by_ : List Int) (i : Int) : NodeD := { nodeAt nodes i with src := mapL by_ (nodeAt nodes i).src }
def keepP (x : PatchD) (keep : List Int) : PatchD :=
  ⟨x.inputs, x.tables, keep.map (keepN x.nodes (byL x.nodes.length keep)), mapL (byL x.nodes.length keep) x.outputs⟩
theorem keepN_succ {nodes : List NodeD} {by_ keep : List Int} {k : Nat} (h : k < keep.length) : (keep.take (k + 1)).map (keepN nodes by_) = (keep.take k).map (keepN nodes by_) ++ [keepN nodes by_ keep[k]] := by
  rw [List.take_succ_eq_append_getElem h, List.map_append]; rfl
def trimP (x : PatchD) : PatchD := keepP x (need x)
end Go.Proofs.Ytdjoaaccnadccaa

namespace Go.Proofs.Ytdjoaaccnadccaa
open Go.ChangeShapes Go.WideShapes Go.ChangeAt Go.RowKit
set_option linter.unusedVariables false

/-- the place that each node of the second patch gets; a: the next free place -/
def chBy (outs : List Int) : Nat → List NodeD → List Int
  | _, [] => []
  | a, n :: ns => if n.kind = 1 then outs.getD n.a.toNat 0 :: chBy outs a ns else (a : Int) :: chBy outs (a + 1) ns
def chCnt : Nat → List NodeD → Nat
  | a, [] => a
  | a, n :: ns => if n.kind = 1 then chCnt a ns else chCnt (a + 1) ns
def chN (t : Int) (by_ : List Int) (n : NodeD) : NodeD := ⟨n.kind, if n.kind = 13 then n.a + t else n.a, n.b, mapL by_ n.src⟩
def chNs (t : Int) (by_ : List Int) : List NodeD → List NodeD
  | [] => []
  | n :: ns => if n.kind = 1 then chNs t by_ ns else chN t by_ n :: chNs t by_ ns
def chainBy (p q : PatchD) : List Int := chBy p.outputs p.nodes.length q.nodes
def chainP (p q : PatchD) : PatchD := ⟨p.inputs, p.tables ++ q.tables, p.nodes ++ chNs p.tables.length (chainBy p q) q.nodes, mapL (chainBy p q) q.outputs⟩
theorem chBy_length : ∀ (outs : List Int) (a : Nat) (ns : List NodeD), (chBy outs a ns).length = ns.length
  | _, _, [] => rfl
  | outs, a, n :: ns => by
    unfold chBy
    split
    · rw [List.length_cons, chBy_length, List.length_cons]
    · rw [List.length_cons, chBy_length, List.length_cons]
theorem chNs_length : ∀ (t : Int) (by_ : List Int) (a : Nat) (ns : List NodeD), a + (chNs t by_ ns).length = chCnt a ns
  | _, _, _, [] => rfl
  | t, by_, a, n :: ns => by
    unfold chNs chCnt
    split
    · exact chNs_length t by_ a ns
    · rw [List.length_cons, ← chNs_length t by_ (a + 1) ns]; omega
theorem chCnt_le : ∀ (a : Nat) (ns : List NodeD), a ≤ chCnt a ns ∧ chCnt a ns ≤ a + ns.length
  | a, [] => ⟨Nat.le_refl _, Nat.le_refl _⟩
  | a, n :: ns => by
    unfold chCnt
    split
    · have := chCnt_le a ns
      rw [List.length_cons]; omega
    · have := chCnt_le (a + 1) ns
      rw [List.length_cons]; omega
theorem chBy_in {outs : List Int} {a : Nat} {ns : List NodeD} {k : Nat} (h : k < ns.length) (hk : ns[k].kind = 1) : chBy outs a (ns.drop k) = outs.getD ns[k].a.toNat 0 :: chBy outs a (ns.drop (k + 1)) := by
  rw [List.drop_eq_getElem_cons h, chBy, if_pos hk]
theorem chBy_out {outs : List Int} {a : Nat} {ns : List NodeD} {k : Nat} (h : k < ns.length) (hk : ns[k].kind ≠ 1) : chBy outs a (ns.drop k) = (a : Int) :: chBy outs (a + 1) (ns.drop (k + 1)) := by
  rw [List.drop_eq_getElem_cons h, chBy, if_neg hk]
theorem chCnt_in {a : Nat} {ns : List NodeD} {k : Nat} (h : k < ns.length) (hk : ns[k].kind = 1) : chCnt a (ns.drop k) = chCnt a (ns.drop (k + 1)) := by
  rw [List.drop_eq_getElem_cons h, chCnt, if_pos hk]
theorem chCnt_out {a : Nat} {ns : List NodeD} {k : Nat} (h : k < ns.length) (hk : ns[k].kind ≠ 1) : chCnt a (ns.drop k) = chCnt (a + 1) (ns.drop (k + 1)) := by
  rw [List.drop_eq_getElem_cons h, chCnt, if_neg hk]
theorem chNs_in {t : Int} {by_ : List Int} {ns : List NodeD} {k : Nat} (h : k < ns.length) (hk : ns[k].kind = 1) : chNs t by_ (ns.drop k) = chNs t by_ (ns.drop (k + 1)) := by
  rw [List.drop_eq_getElem_cons h, chNs, if_pos hk]
theorem chNs_out {t : Int} {by_ : List Int} {ns : List NodeD} {k : Nat} (h : k < ns.length) (hk : ns[k].kind ≠ 1) : chNs t by_ (ns.drop k) = chN t by_ ns[k] :: chNs t by_ (ns.drop (k + 1)) := by
  rw [List.drop_eq_getElem_cons h, chNs, if_neg hk]
theorem take_set_snoc {xs : List Int} {k : Nat} (h : k < xs.length) (v : Int) : (xs.set k v).take (k + 1) = xs.take k ++ [v] := by
  rw [List.take_succ_eq_append_getElem (by rw [List.length_set]; exact h), List.getElem_set_self, List.take_set_of_le (Nat.le_refl k)]
/-! ### lists of lists are appended -/
section
theorem OwnIs.oneCell {B : Nat} {w : World} {L : List Value} {xss : List (List Int)} (h : OwnIs B w L xss) : ∀ u ∈ L, u.oneCell' = true := by
  intro u hu
  obtain ⟨i, hi, rfl⟩ := List.mem_iff_getElem.1 hu
  obtain ⟨hL, ho⟩ := h.at_ (i := i) (by rw [← h.1]; exact hi)
  exact ho.oneCell
theorem run_append_vals (w : World) (ty E T bytes : Nat) (z : Value) (hT : Try.prog.underlying T = some (.slice E)) (hinfo : (Try.prog.info? E).map (fun i => (i.zero, i.size, i.bytes)) = some (some z, 1, bytes)) (hz : z.cells.size = 1) (hby : bytes ≤ 64)
    {B : Nat} {v : Value} {L M : List Value} (hown : OwnV B w E v L) {b o c : Nat} (hr : ∀ i (h : i < M.length), w.cell? ⟨b, o + i, none⟩ = some M[i]) (h1 : ∀ u ∈ M, u.oneCell' = true) (hlen : L.length + M.length < 1099511627776) (hB : B ≤ w.heap.size) :
    ∃ v' w', (Builtin.append_ #[T, T] ty #[v, .slice (some ⟨b, o, none⟩) M.length c]).run Try.prog w = .ok v' w' ∧ OwnV B w' E v' (L ++ M) ∧ w.grownBy w' v.ownBlock := by
  obtain ⟨i0, hi, hz0, hz1, hz2⟩ := info_parts hinfo
  obtain ⟨v', w', e1, e2, e3, _⟩ := run_append_own (P := Try.prog) w B T ty E i0 z 1 bytes hT hi hz0 hz1 hz2 hz (by decide) v L.length L hown ⟨b, o, none⟩ M.length c M (by simp)
    (by
      intro j u hu
      obtain ⟨hj, rfl⟩ := List.getElem?_eq_some_iff.1 hu
      rw [Addr.add_lit]
      exact hr j hj)
    h1 (by simp only [maxLen]; omega)
    (by have : (L.length + M.length) * bytes ≤ 1099511627776 * 64 := Nat.mul_le_mul (by omega) hby
        omega) hB
  exact ⟨v', w', e1, by simpa [OwnV] using e2, e3⟩
theorem run_append_valsN (w : World) (ty E T : Nat) (bytes : Nat) (z : Value) (hT : Try.prog.underlying T = some (.slice E)) (hinfo : (Try.prog.info? E).map (fun i => (i.zero, i.size, i.bytes)) = some (some z, 1, bytes)) (hz : z.cells.size = 1) (hby : bytes ≤ 64)
    {B B' : Nat} {v u : Value} {L M : List Value} (hown : OwnV B w E v L) (hsrc : OwnV B' w E u M) (h1 : ∀ u ∈ M, u.oneCell' = true) (hlen : L.length + M.length < 1099511627776) (hB : B ≤ w.heap.size) :
    ∃ v' w', (Builtin.append_ #[T, T] ty #[v, u]).run Try.prog w = .ok v' w' ∧ OwnV B w' E v' (L ++ M) ∧ w.grownBy w' v.ownBlock := by
  rcases hsrc.cases with ⟨rfl, rfl⟩ | ⟨g, cap, rfl, -, -, -, hr⟩
  · obtain ⟨i0, hi, hz0, hz1, hz2⟩ := info_parts hinfo
    refine ⟨v, w, ?_, by simpa using hown, ⟨rfl, rfl, rfl, Nat.le_refl _, fun _ _ _ => rfl⟩⟩
    rcases hown.2 with ⟨rfl, h0⟩ | ⟨g, cap, cur, rfl, _, _, hnc, _⟩
    · simp [Builtin.append_, run_underlying hT, sizeOf, typeInfo, hi, Builtin.lenOf, Builtin.firstCells]
    · simp [Builtin.append_, run_underlying hT, sizeOf, typeInfo, hi, Builtin.lenOf, Builtin.firstCells, hnc, storeCells]
  · refine run_append_vals w ty E T bytes z hT hinfo hz hby hown (o := 0) (fun i hi => ?_) h1 hlen hB
    obtain ⟨b, o, e, -, hc⟩ := hr.pos hi
    simp only [Option.some.injEq, Addr.mk.injEq, and_true] at e
    obtain ⟨rfl, rfl⟩ := e
    exact hc i hi
theorem wpList_append_vals {ops : Array Oper} {rest : List Oper} {o : Oper} {a : Act} {Q : Exit → Act → World → Prop} {w : World} {E T : Nat} (hgd : o.guard = none) (s x : Operand)
    (ho : o.op = .call { callee := .builtin .append, args := #[s, x], argTypes := #[T, T] }) (bytes : Nat) (z : Value) (hT : Try.prog.underlying T = some (.slice E)) (hinfo : (Try.prog.info? E).map (fun i => (i.zero, i.size, i.bytes)) = some (some z, 1, bytes)) (hz : z.cells.size = 1) (hby : bytes ≤ 64)
    {B B' : Nat} {v u : Value} {L M : List Value} (hs : a.eval s = v) (hx : a.eval x = u) (hown : OwnV B w E v L) (hsrc : OwnV B' w E u M) (h1 : ∀ u ∈ M, u.oneCell' = true) (hlen : L.length + M.length < 1099511627776) (hB : B ≤ w.heap.size)
    (h : ∀ v' w', OwnV B w' E v' (L ++ M) → w.grownBy w' v.ownBlock → wpList Try.prog ops Q rest (a.put o.dst v') w') : wpList Try.prog ops Q (o :: rest) a w := by
  refine wpList_plain hgd fun K hK => ?_
  obtain ⟨v', w', e1, e2, e3⟩ := run_append_valsN w o.type E T bytes z hT hinfo hz hby hown hsrc h1 hlen hB
  unfold Oper.wp execOp
  simp only [ho, resolve, invoke, builtin, Sem.run_bind, Sem.run_pure, Result.andThen_ok, List.map_toArray, List.map_cons, List.map_nil, hs, hx, e1]
  exact hK _ _ (h v' w' e2 e3)
theorem step_append_vals {ops : Array Oper} {o : Oper} {a : Act} {K : Act → World → Prop} {Q : Exit → Act → World → Prop} {X : Prop} {w : World} {E T : Nat} (hgd : o.guard = none) (s x : Operand)
    (ho : o.op = .call { callee := .builtin .append, args := #[s, x], argTypes := #[T, T] }) (bytes : Nat) (z : Value) (hT : Try.prog.underlying T = some (.slice E)) (hinfo : (Try.prog.info? E).map (fun i => (i.zero, i.size, i.bytes)) = some (some z, 1, bytes)) (hz : z.cells.size = 1) (hby : bytes ≤ 64)
    {B B' : Nat} {v u : Value} {L M : List Value} (hs : a.eval s = v) (hx : a.eval x = u) (hown : OwnV B w E v L) (hsrc : OwnV B' w E u M) (h1 : ∀ u ∈ M, u.oneCell' = true) (hlen : L.length + M.length < 1099511627776) (hB : B ≤ w.heap.size)
    (h : ∀ v' w', OwnV B w' E v' (L ++ M) → w.grownBy w' v.ownBlock → K (a.put o.dst v') w') :
    if Region.wanted o (yielded ops a.tmps) = true then Oper.wp Try.prog o a w K Q else X := by
  have hw : Region.wanted o (yielded ops a.tmps) = true := by simp [Region.wanted, hgd]
  rw [if_pos hw]
  obtain ⟨v', w', e1, e2, e3⟩ := run_append_valsN w o.type E T bytes z hT hinfo hz hby hown hsrc h1 hlen hB
  unfold Oper.wp execOp
  simp only [ho, resolve, invoke, builtin, Sem.run_bind, Sem.run_pure, Result.andThen_ok, List.map_toArray, List.map_cons, List.map_nil, hs, hx, e1]
  exact h v' w' e2 e3
end
section
variable {B : Nat} {w0 w : World} {s : Nat} {inp : Int} {v1 v2 v3 : Value} {ts : List (List Int)} {ns : List NodeD} {os : List Int} {L1 L : List Value}
/-- more tables -/
theorem OwnP.tables {w' : World} {v1' : Value} {M : List Value} {ts' : List (List Int)} (h : OwnP B w v1 v2 v3 ts ns os L1 L) (hs : OwnIs B w M ts') (hd : Dis M) (hsep : ∀ b, Blk M b → ¬ Blk (L1 ++ (L ++ [v3])) b) (hv : OwnV B w' 26 v1' (L1 ++ M))
    (hk : ∀ k, k < w.heap.size → v1.ownBlock ≠ some k → w'.heap[k]? = w.heap[k]?) : OwnP B w' v1' v2 v3 (ts ++ ts') ns os (L1 ++ M) L := by
  have t1 := Typed.of h.o1
  refine ⟨hv, ?_, h.o2.keep fun k e => hk k (h.o2.lt e).2 fun e' => t1.ne (Typed.of h.o2.2) (by decide) e' e, h.s2.keep fun k hb => hk k (h.s2.blk hb).2.1 fun e => ?_, h.o3.keep fun k e => hk k (h.o3.lt e).2 fun e' => t1.ne (Typed.of h.o3) (by decide) e' e, ?_⟩
  · refine (h.s1.keep fun k hb => hk k (h.s1.blk hb).2.1 fun e => ?_).append (hs.keep fun k hb => hk k (hs.blk hb).2.1 fun e => ?_)
    · obtain ⟨v, hv, hb⟩ := hb
      exact t1.ne (h.s1.typed hv) (by decide) e hb
    · obtain ⟨v, hv, hb⟩ := hb
      exact t1.ne (hs.typed hv) (by decide) e hb
  · obtain ⟨v, hv, hb⟩ := hb
    exact t1.ne (h.s2.typed hv) (by decide) e hb
  · have hdd := h.dis
    rw [List.append_assoc]
    refine Dis.append hdd.left (Dis.append hd hdd.right fun b hb hb' => hsep b hb (blk_append.2 (.inr hb'))) fun b hb hb' => ?_
    rcases blk_append.1 hb' with h1 | h1
    · exact hsep b h1 (blk_append.2 (.inl hb))
    · exact hdd.sep b hb h1
theorem PB.tables {w' : World} {v1' : Value} {M : List Value} {ts' : List (List Int)} (h : PB B w0 w s inp v1 v2 v3 ts ns os L1 L) (hs : OwnIs B w M ts') (hd : Dis M) (hsep : ∀ b, Blk M b → ¬ Blk (L1 ++ (L ++ [v3])) b) (hv : OwnV B w' 26 v1' (L1 ++ M)) (hg : w.grownBy w' v1.ownBlock) :
    (w'.cell? ⟨s, 1, none⟩ = some v1 ∧ w'.frozen? ⟨s, 1, none⟩ = false) ∧ PB B w0 (w'.setCell ⟨s, 1, none⟩ v1') s inp v1' v2 v3 (ts ++ ts') ns os (L1 ++ M) L := by
  have hk : ∀ k, k < w.heap.size → v1.ownBlock ≠ some k → w'.heap[k]? = w.heap[k]? := fun k hk hne => hg.block k hk fun e => hne e.symm
  have o' := h.own.tables hs hd hsep hv hk
  have n1 := (h.own.neBox h.out patchT).1
  have out' := h.out.keep (hk _ h.out.lt n1)
  have bel' : Below w0.heap.size w0 w' := h.bel.grown hg h.bel.size fun k hk => by have := (h.own.o1.lt hk).1; have := h.hB; omega
  exact ⟨⟨out'.cell 1 rfl, out'.frozen 1⟩, o'.setBox out' patchT 1 _, by simpa using out'.set 1 v1', bel'.setCell (by simpa using h.hs) _, h.hB, h.hs⟩
end
end Go.Proofs.Ytdjoaaccnadccaa

namespace Go.Proofs.Ytdjoaaccnadccaa
open Go.ChangeShapes Go.WideShapes Go.ChangeAt Go.RowKit Go.Sort
set_option linter.unusedVariables false

def noN : NodeD := ⟨0, 0, 0, []⟩
/-- the nodes of the second patch that stand in the chain; i: the first one's number -/
def chInv : Nat → List NodeD → List Nat
  | _, [] => []
  | i, n :: ns => if n.kind = 1 then chInv (i + 1) ns else i :: chInv (i + 1) ns
theorem chInv_length (t : Int) (by_ : List Int) : ∀ (i : Nat) (ns : List NodeD), (chInv i ns).length = (chNs t by_ ns).length
  | _, [] => rfl
  | i, n :: ns => by
    unfold chInv chNs
    split
    · exact chInv_length t by_ (i + 1) ns
    · rw [List.length_cons, List.length_cons, chInv_length t by_ (i + 1) ns]
theorem chInv_at (t : Int) (by_ : List Int) : ∀ (i : Nat) (ns : List NodeD) (j : Nat), j < (chInv i ns).length → ∃ k, k < ns.length ∧ (chInv i ns).getD j 0 = i + k ∧ (ns.getD k noN).kind ≠ 1 ∧ (chNs t by_ ns).getD j noN = chN t by_ (ns.getD k noN)
  | _, [], j, h => by simp [chInv] at h
  | i, n :: ns, j, h => by
    unfold chInv at h ⊢
    unfold chNs
    by_cases hk : n.kind = 1
    · rw [if_pos hk] at h ⊢
      rw [if_pos hk]
      obtain ⟨k, h1, h2, h3, h4⟩ := chInv_at t by_ (i + 1) ns j h
      exact ⟨k + 1, by simp; omega, by rw [h2]; omega, h3, h4⟩
    · rw [if_neg hk] at h ⊢
      rw [if_neg hk]
      cases j with
      | zero => exact ⟨0, by simp, rfl, hk, rfl⟩
      | succ j =>
        obtain ⟨k, h1, h2, h3, h4⟩ := chInv_at t by_ (i + 1) ns j (by simpa using h)
        exact ⟨k + 1, by simp; omega, by show (chInv (i + 1) ns).getD j 0 = _; rw [h2]; omega, h3, h4⟩
theorem chBy_node (t : Int) (by_ outs : List Int) : ∀ (i a : Nat) (ns : List NodeD) (k : Nat), k < ns.length → (ns.getD k noN).kind ≠ 1 → ∃ j, j < (chInv i ns).length ∧ (chInv i ns).getD j 0 = i + k ∧ (chBy outs a ns).getD k 0 = ((a + j : Nat) : Int) ∧ (chNs t by_ ns).getD j noN = chN t by_ (ns.getD k noN)
  | _, _, [], k, h, _ => by simp at h
  | i, a, n :: ns, k, h, hk => by
    unfold chInv chBy chNs
    by_cases hn : n.kind = 1
    · rw [if_pos hn, if_pos hn, if_pos hn]
      cases k with
      | zero => exact absurd hn hk
      | succ k =>
        obtain ⟨j, h1, h2, h3, h4⟩ := chBy_node t by_ outs (i + 1) a ns k (by simpa using h) hk
        exact ⟨j, h1, by rw [h2]; omega, h3, h4⟩
    · rw [if_neg hn, if_neg hn, if_neg hn]
      cases k with
      | zero => exact ⟨0, by simp, rfl, rfl, rfl⟩
      | succ k =>
        obtain ⟨j, h1, h2, h3, h4⟩ := chBy_node t by_ outs (i + 1) (a + 1) ns k (by simpa using h) hk
        refine ⟨j + 1, by simp; omega, ?_, ?_, h4⟩
        · show (chInv (i + 1) ns).getD j 0 = _; rw [h2]; omega
        · show (chBy outs (a + 1) ns).getD k 0 = _; rw [h3]; omega
theorem chBy_inp (outs : List Int) : ∀ (a : Nat) (ns : List NodeD) (k : Nat), k < ns.length → (ns.getD k noN).kind = 1 → (chBy outs a ns).getD k 0 = outs.getD (ns.getD k noN).a.toNat 0
  | _, [], k, h, _ => by simp at h
  | a, n :: ns, k, h, hk => by
    unfold chBy
    by_cases hn : n.kind = 1
    · rw [if_pos hn]
      cases k with
      | zero => rfl
      | succ k => exact chBy_inp outs a ns k (by simpa using h) hk
    · rw [if_neg hn]
      cases k with
      | zero => exact absurd hk hn
      | succ k => exact chBy_inp outs (a + 1) ns k (by simpa using h) hk
/-! ### what a patch's nodes ask -/
theorem ndB_parts {m t n : Int} {x : NodeD} : ndB m t n x = true ↔ inB x.kind 1 17 = true ∧ aB x.kind x.a t = true ∧ (x.src.length : Int) = kAr (x.kind - 1).toNat ∧ (∀ f ∈ x.src, 0 ≤ f ∧ f ≤ 23) ∧ (if x.kind = 17 then inB x.b 1 16 else x.b == 0) = true ∧ (x.kind = 1 → x.a < m) ∧ ∀ f ∈ x.src, 0 ≤ f ∧ f < n := by
  unfold ndB
  rw [nodeB_split]
  simp only [Bool.and_eq_true, List.all_eq_true, inB_iff, beq_iff_eq, Bool.not_eq_true', Bool.and_eq_false_iff, beq_eq_false_iff_ne, decide_eq_false_iff_not]
  constructor
  · rintro ⟨⟨⟨a, b, c, d, e⟩, f⟩, g⟩
    exact ⟨a, b, c, d, e, fun h => by rcases f with f | f; exact absurd h f; omega, fun y hy => by have := g y hy; omega⟩
  · rintro ⟨a, b, c, d, e, f, g⟩
    refine ⟨⟨⟨a, b, c, d, e⟩, ?_⟩, fun y hy => by have := g y hy; omega⟩
    by_cases h : x.kind = 1
    · right; have := f h; omega
    · exact .inl h
theorem aB_tab {k a t t' : Int} (h : aB k a t = true) (ht : t ≤ t') (ht4 : t' ≤ 4) : aB k a t' = true := by
  unfold aB at h ⊢
  split
  · rename_i hk
    rw [if_pos hk, inB_iff] at h
    rw [inB_iff]; omega
  · rename_i hk
    rw [if_neg hk] at h; exact h
theorem aB_shift {k a t t0 : Int} (h : aB k a t = true) (hk : k = 13) (h0 : 0 ≤ t0) (ht4 : t0 + t ≤ 4) : aB k (a + t0) (t0 + t) = true := by
  unfold aB at h ⊢
  rw [if_pos hk, inB_iff] at h ⊢
  omega
section
variable {p q : PatchD}
theorem formed_in {x : PatchD} (hf : formedB x = true) {k : Nat} (h : k < x.nodes.length) : ndB x.inputs x.tables.length x.nodes.length (ndI x.nodes k) = true := by
  rw [ndI_at h]; exact (formed_iff.1 hf).2.2.2.2.1 _ (List.getElem_mem h)
theorem formed_a {x : PatchD} (hf : formedB x = true) {k : Nat} (h : k < x.nodes.length) (h1 : (ndI x.nodes k).kind = 1) : 0 ≤ (ndI x.nodes k).a ∧ (ndI x.nodes k).a < x.inputs := by
  have hn := ndB_parts.1 (formed_in hf h)
  refine ⟨?_, hn.2.2.2.2.2.1 h1⟩
  have h2 := hn.2.1
  rw [h1] at h2
  have h3 : inB (ndI x.nodes k).a 0 3 = true := h2
  rw [inB_iff] at h3; exact h3.1
theorem chain_len (p q : PatchD) : (chainP p q).nodes.length = chCnt p.nodes.length q.nodes := by
  unfold chainP
  rw [List.length_append]
  exact chNs_length _ _ _ _
theorem chain_left {k : Nat} (h : k < p.nodes.length) : ndI (chainP p q).nodes (k : Int) = ndI p.nodes (k : Int) := by
  unfold ndI chainP
  rw [Int.toNat_natCast, List.getD_eq_getElem?_getD, List.getElem?_append_left h, ← List.getD_eq_getElem?_getD]
theorem chain_right (j : Nat) : ndI (chainP p q).nodes ((p.nodes.length + j : Nat) : Int) = (chNs p.tables.length (chainBy p q) q.nodes).getD j noN := by
  unfold ndI chainP
  rw [Int.toNat_natCast, List.getD_eq_getElem?_getD, List.getElem?_append_right (by omega), ← List.getD_eq_getElem?_getD, Nat.add_sub_cancel_left]
  rfl
/-- where the second patch's nodes lie -/
def chPhi (p q : PatchD) (k : Nat) : Nat := ((chainBy p q).getD k 0).toNat
theorem chain_node {k : Nat} (h : k < q.nodes.length) (hk : (ndI q.nodes k).kind ≠ 1) : ∃ j, j < (chInv 0 q.nodes).length ∧ (chInv 0 q.nodes).getD j 0 = k ∧ (chainBy p q).getD k 0 = ((p.nodes.length + j : Nat) : Int) ∧ ndI (chainP p q).nodes ((p.nodes.length + j : Nat) : Int) = chN p.tables.length (chainBy p q) (ndI q.nodes k) := by
  have hk' : (q.nodes.getD k noN).kind ≠ 1 := by have := hk; unfold ndI at this; rw [Int.toNat_natCast] at this; exact this
  obtain ⟨j, h1, h2, h3, h4⟩ := chBy_node p.tables.length (chainBy p q) p.outputs 0 p.nodes.length q.nodes k h hk'
  refine ⟨j, h1, by rw [h2]; omega, h3, ?_⟩
  rw [chain_right, h4]
  unfold ndI; rw [Int.toNat_natCast]; rfl
theorem chain_inp {k : Nat} (h : k < q.nodes.length) (hk : (ndI q.nodes k).kind = 1) : (chainBy p q).getD k 0 = p.outputs.getD (ndI q.nodes k).a.toNat 0 := by
  have hk' : (q.nodes.getD k noN).kind = 1 := by have := hk; unfold ndI at this; rw [Int.toNat_natCast] at this; exact this
  have := chBy_inp p.outputs p.nodes.length q.nodes k h hk'
  unfold ndI; rw [Int.toNat_natCast]; exact this
theorem chInv_le (p q : PatchD) : p.nodes.length + (chInv 0 q.nodes).length = chCnt p.nodes.length q.nodes := by
  rw [chInv_length p.tables.length (chainBy p q)]
  exact chNs_length _ _ _ _
theorem outs_at (hf : formedB p = true) {a : Nat} (h : a < p.outputs.length) : 0 ≤ p.outputs.getD a 0 ∧ p.outputs.getD a 0 < (p.nodes.length : Int) := by
  rw [List.getD_eq_getElem?_getD, List.getElem?_eq_getElem h]
  exact (formed_iff.1 hf).2.2.2.2.2 _ (List.getElem_mem h)
theorem chBy_range (hp : formedB p = true) (hq : formedB q = true) (hio : (p.outputs.length : Int) = q.inputs) {k : Nat} (h : k < q.nodes.length) :
    0 ≤ (chainBy p q).getD k 0 ∧ (chainBy p q).getD k 0 < (chCnt p.nodes.length q.nodes : Int) ∧ ((ndI q.nodes k).kind = 1 → (chainBy p q).getD k 0 < (p.nodes.length : Int)) := by
  have hc := chCnt_le p.nodes.length q.nodes
  by_cases hk : (ndI q.nodes k).kind = 1
  · have ha := formed_a hq h hk
    rw [chain_inp h hk]
    have := outs_at hp (a := (ndI q.nodes k).a.toNat) (by omega)
    exact ⟨this.1, by omega, fun _ => this.2⟩
  · obtain ⟨j, h1, h2, h3, h4⟩ := chain_node (p := p) h hk
    rw [h3]
    have := chInv_le p q
    exact ⟨by omega, by omega, fun e => absurd e hk⟩
theorem chain_formed (hp : formedB p = true) (hq : formedB q = true) (hio : (p.outputs.length : Int) = q.inputs) (hn : chCnt p.nodes.length q.nodes ≤ 24) (ht : p.tables.length + q.tables.length ≤ 4) : formedB (chainP p q) = true := by
  have P := formed_iff.1 hp
  have Q := formed_iff.1 hq
  have hc := chCnt_le p.nodes.length q.nodes
  have hl := chain_len p q
  have htl : ((chainP p q).tables.length : Int) = (p.tables.length : Int) + (q.tables.length : Int) := by unfold chainP; simp
  have nodes : ∀ k, k < (chainP p q).nodes.length → ndB p.inputs (chainP p q).tables.length (chainP p q).nodes.length (ndI (chainP p q).nodes (k : Int)) = true := fun k hk => by
    rw [hl] at hk ⊢
    rw [htl]
    by_cases h1 : k < p.nodes.length
    · rw [chain_left h1]
      obtain ⟨a, b, c, d, e, f, g⟩ := ndB_parts.1 (formed_in hp h1)
      exact ndB_parts.2 ⟨a, aB_tab b (by omega) (by omega), c, d, e, f, fun y hy => by have := g y hy; omega⟩
    · obtain ⟨j, rfl⟩ : ∃ j, k = p.nodes.length + j := ⟨k - p.nodes.length, by omega⟩
      have hj : j < (chInv 0 q.nodes).length := by have := chInv_le p q; omega
      obtain ⟨i, i1, i2, i3, i4⟩ := chInv_at p.tables.length (chainBy p q) 0 q.nodes j hj
      rw [chain_right, i4]
      have hi : q.nodes.getD i noN = ndI q.nodes (i : Int) := by unfold ndI; rw [Int.toNat_natCast]; rfl
      rw [hi] at i3 ⊢
      obtain ⟨a, b, c, d, e, f, g⟩ := ndB_parts.1 (formed_in hq i1)
      have hsrc : ∀ y ∈ mapL (chainBy p q) (ndI q.nodes (i : Int)).src, 0 ≤ y ∧ y < (chCnt p.nodes.length q.nodes : Int) := fun y hy => by
        unfold mapL at hy
        obtain ⟨s, hs, rfl⟩ := List.mem_map.1 hy
        have := g s hs
        have := chBy_range hp hq hio (k := s.toNat) (by omega)
        exact ⟨this.1, this.2.1⟩
      refine ndB_parts.2 ⟨a, ?_, by show ((mapL _ _).length : Int) = _; rw [mapL_length]; exact c, fun y hy => by have := hsrc y hy; omega, e, fun h => absurd h i3, hsrc⟩
      show aB (ndI q.nodes (i : Int)).kind (if (ndI q.nodes (i : Int)).kind = 13 then (ndI q.nodes (i : Int)).a + (p.tables.length : Int) else (ndI q.nodes (i : Int)).a) _ = true
      split
      · rename_i h13
        exact aB_shift b h13 (by omega) (by omega)
      · exact aB_tab b (by omega) (by omega)
  refine formed_iff.2 ⟨P.1, ?_, by rw [hl]; exact hn, by show (mapL _ _).length ≤ 4; rw [mapL_length]; exact Q.2.2.2.1, fun y hy => ?_, fun y hy => ?_⟩
  · have h1 := P.2.1
    have h2 := Q.2.1
    unfold tablesB at h1 h2 ⊢
    show ((p.tables ++ q.tables).all tblB && decide ((p.tables ++ q.tables).length ≤ 4)) = true
    simp only [Bool.and_eq_true, decide_eq_true_eq] at h1 h2 ⊢
    exact ⟨by rw [List.all_append, h1.1, h2.1]; rfl, by rw [List.length_append]; omega⟩
  · obtain ⟨k, hk, rfl⟩ := List.mem_iff_getElem.1 hy
    have := nodes k hk
    rw [ndI_at hk] at this
    exact this
  · have hy' : y ∈ mapL (chainBy p q) q.outputs := hy
    unfold mapL at hy'
    obtain ⟨s, hs, rfl⟩ := List.mem_map.1 hy'
    have := Q.2.2.2.2.2 s hs
    have := chBy_range hp hq hio (k := s.toNat) (by omega)
    rw [hl]
    exact ⟨this.1, this.2.1⟩
theorem chain_okB (hp : okB p = true) (hq : okB q = true) (hio : (p.outputs.length : Int) = q.inputs) (hn : chCnt p.nodes.length q.nodes ≤ 24) (ht : p.tables.length + q.tables.length ≤ 4) : okB (chainP p q) = true := by
  have fp := (okR_len hp).1
  have fq := (okR_len hq).1
  obtain ⟨ρ, r1, r2⟩ := okR_ranked hp
  obtain ⟨σ, s1, s2⟩ := okR_ranked hq
  refine rankedR_okB (ρ := fun j => if j.toNat < p.nodes.length then ρ j else 25 + σ ((chInv 0 q.nodes).getD (j.toNat - p.nodes.length) 0 : Nat)) (chain_formed fp fq hio hn ht) fun j h0 hj s hs => ?_
  obtain ⟨k, rfl⟩ := Int.eq_ofNat_of_zero_le h0
  rw [chain_len] at hj
  dsimp only
  rw [Int.toNat_natCast]
  by_cases h1 : k < p.nodes.length
  · rw [chain_left h1] at hs
    have hr := formedR_src fp h1 s (waits_src hs)
    rw [if_pos h1, if_pos (by omega)]
    exact r1 _ (by omega) (by omega) s hs
  · rw [if_neg h1]
    obtain ⟨j, rfl⟩ : ∃ j, k = p.nodes.length + j := ⟨k - p.nodes.length, by omega⟩
    have hj' : j < (chInv 0 q.nodes).length := by have := chInv_le p q; omega
    obtain ⟨i, i1, i2, i3, i4⟩ := chInv_at p.tables.length (chainBy p q) 0 q.nodes j hj'
    rw [chain_right, i4] at hs
    have hi : q.nodes.getD i noN = ndI q.nodes (i : Int) := by unfold ndI; rw [Int.toNat_natCast]; rfl
    rw [hi] at i3 hs
    rw [Nat.add_sub_cancel_left, i2, Nat.zero_add]
    have hw : ∃ t ∈ waits (ndI q.nodes (i : Int)), s = (chainBy p q).getD t.toNat 0 := by
      unfold waits at hs ⊢
      show ∃ t ∈ (if (ndI q.nodes (i : Int)).kind = 6 then [] else (ndI q.nodes (i : Int)).src), _
      change s ∈ (if (ndI q.nodes (i : Int)).kind = 6 then [] else mapL (chainBy p q) (ndI q.nodes (i : Int)).src) at hs
      split at hs
      · simp at hs
      · rename_i h6
        rw [if_neg h6]
        unfold mapL at hs
        obtain ⟨t, ht, rfl⟩ := List.mem_map.1 hs
        exact ⟨t, ht, rfl⟩
    obtain ⟨t, htw, rfl⟩ := hw
    have hr := formedR_src fq i1 t (waits_src htw)
    obtain ⟨m, rfl⟩ := Int.eq_ofNat_of_zero_le hr.1
    have hm : m < q.nodes.length := by omega
    have hlt := s1 (i : Int) (by omega) (by omega) _ htw
    rw [Int.toNat_natCast]
    by_cases hk : (ndI q.nodes (m : Int)).kind = 1
    · have := (chBy_range fp fq hio hm)
      have h3 := this.2.2 hk
      rw [if_pos (by omega)]
      have := r2 ((chainBy p q).getD m 0)
      omega
    · obtain ⟨l, l1, l2, l3, l4⟩ := chain_node (p := p) hm hk
      rw [l3, Int.toNat_natCast, if_neg (by omega), Nat.add_sub_cancel_left, l2]
      omega
theorem outP_same {n m : NodeD} {tb tb' : List (List Int)} (hk : m.kind = n.kind) (ha : n.kind ≠ 13 → m.a = n.a) (ht : n.kind = 13 → tb'.getD m.a.toNat [] = tb.getD n.a.toNat []) (xs ss : List Int) : outP n tb xs ss = outP m tb' xs ss := by
  unfold outP
  by_cases h : n.kind = 13
  · rw [hk, h]
    show lookP (tb.getD n.a.toNat []) (xs.getD 0 0) = lookP (tb'.getD m.a.toNat []) (xs.getD 0 0)
    rw [ht h]
  · rw [hk, ha h]
    have hn : n.kind.toNat ≠ 13 := by omega
    unfold outK
    split <;> first | rfl | (exact absurd ‹_› hn) | (exfalso; simp_all)
theorem tab_of (hf : formedB p = true) {k : Nat} (h : k < p.nodes.length) (h13 : (ndI p.nodes k).kind = 13) : 0 ≤ (ndI p.nodes k).a ∧ (ndI p.nodes k).a < (p.tables.length : Int) := by
  have hb := (ndB_parts.1 (formed_in hf h)).2.1
  unfold aB at hb
  rw [if_pos h13, inB_iff] at hb
  omega
theorem chain_emb1 (hp : formedB p = true) : Emb p (chainP p q) (fun k => k) (fun _ => False) := by
  have hl := chain_len p q
  have hc := chCnt_le p.nodes.length q.nodes
  refine ⟨fun k hk => by omega, fun k hk h => h.elim, fun k hk _ xs ss => ?_, fun k hk _ xs ss y => by rw [chain_left hk], fun k hk _ => by rw [chain_left hk], fun k hk _ => by rw [chain_left hk], fun k hk _ _ => by rw [chain_left hk], fun k hk _ => ⟨?_, formedR_src hp hk⟩⟩
  · rw [chain_left hk]
    refine outP_same rfl (fun _ => rfl) (fun h => ?_) xs ss
    have := tab_of hp hk h
    show (p.tables ++ q.tables).getD _ [] = _
    rw [List.getD_eq_getElem?_getD, List.getElem?_append_left (by omega), ← List.getD_eq_getElem?_getD]
  · rw [chain_left hk]
    conv => lhs; rw [← List.map_id (ndI p.nodes (k : Int)).src]
    refine List.map_congr_left fun s hs => ?_
    have := formedR_src hp hk s hs
    show s = ((s.toNat : Nat) : Int)
    omega
theorem chain_emb2 (hp : formedB p = true) (hq : formedB q = true) (hio : (p.outputs.length : Int) = q.inputs) : Emb q (chainP p q) (chPhi p q) (fun k => (ndI q.nodes (k : Int)).kind = 1) := by
  have hl := chain_len p q
  have node : ∀ k, k < q.nodes.length → (ndI q.nodes (k : Int)).kind ≠ 1 → ndI (chainP p q).nodes ((chPhi p q k : Nat) : Int) = chN p.tables.length (chainBy p q) (ndI q.nodes k) := fun k hk h1 => by
    obtain ⟨j, _, _, h3, h4⟩ := chain_node (p := p) hk h1
    unfold chPhi
    rw [h3, Int.toNat_natCast]
    exact h4
  refine ⟨fun k hk => ?_, fun k hk h => h, fun k hk h xs ss => ?_, fun k hk h xs ss y => by rw [node k hk h]; rfl, fun k hk h => ?_, fun k hk h => by rw [node k hk h]; rfl, fun k hk h h1 => absurd h1 h, fun k hk h => ⟨?_, formedR_src hq hk⟩⟩
  · have := chBy_range hp hq hio hk
    unfold chPhi
    omega
  · rw [node k hk h]
    refine outP_same (n := ndI q.nodes (k : Int)) (m := chN p.tables.length (chainBy p q) (ndI q.nodes k)) rfl (fun h13 => by show (if _ then _ else _) = _; rw [if_neg h13]) (fun h13 => ?_) xs ss
    have := tab_of hq hk h13
    show (p.tables ++ q.tables).getD (if _ then _ else _ : Int).toNat [] = _
    rw [if_pos h13, List.getD_eq_getElem?_getD, List.getElem?_append_right (by omega), ← List.getD_eq_getElem?_getD]
    congr 1
    omega
  · rw [node k hk h]
    unfold startL
    show _ = if (ndI q.nodes (k : Int)).kind = 6 then List.replicate (if (ndI q.nodes (k : Int)).kind = 13 then (ndI q.nodes (k : Int)).a + (p.tables.length : Int) else (ndI q.nodes (k : Int)).a).toNat 0 else if (ndI q.nodes (k : Int)).kind = 17 then List.replicate (ndI q.nodes (k : Int)).b.toNat 0 else if (ndI q.nodes (k : Int)).kind = 7 ∨ (ndI q.nodes (k : Int)).kind = 8 ∨ (ndI q.nodes (k : Int)).kind = 16 then [0] else if (ndI q.nodes (k : Int)).kind = 12 ∨ (ndI q.nodes (k : Int)).kind = 14 then [if (ndI q.nodes (k : Int)).kind = 13 then (ndI q.nodes (k : Int)).a + (p.tables.length : Int) else (ndI q.nodes (k : Int)).a] else []
    by_cases h13 : (ndI q.nodes (k : Int)).kind = 13
    · rw [h13]; rfl
    · rw [if_neg h13]
  · rw [node k hk h]
    show mapL (chainBy p q) (ndI q.nodes (k : Int)).src = _
    unfold mapL
    refine List.map_congr_left fun s hs => ?_
    have := formedR_src hq hk s hs
    have := chBy_range hp hq hio (k := s.toNat) (by omega)
    show (chainBy p q).getD s.toNat 0 = ((((chainBy p q).getD s.toNat 0).toNat : Nat) : Int)
    omega
theorem renL_get {x : PatchD} {ins : List (List Int)} {n a i : Nat} (ha : a < x.outputs.length) (hi : i < n) : (frN (renL x ins n) i).getD a 0 = (vsI x ins i).getD (x.outputs.getD a 0).toNat 0 := by
  unfold frN renL
  rw [List.map_map, List.getD_eq_getElem?_getD, List.getElem?_map, List.getElem?_eq_getElem ha]
  show ((List.range n).map fun i => (vsI x ins i).getD x.outputs[a].toNat 0).getD i 0 = _
  rw [getD_map_range _ _ hi, List.getD_eq_getElem?_getD (l := x.outputs), List.getElem?_eq_getElem ha]
  rfl
/-- the chain renders as one patch after the other -/
theorem chain_render (hp : okB p = true) (hq : okB q = true) (hio : (p.outputs.length : Int) = q.inputs) (hn : chCnt p.nodes.length q.nodes ≤ 24) (ht : p.tables.length + q.tables.length ≤ 4) (ins : List (List Int)) (n : Nat) :
    renL q (renL p ins n) n = renL (chainP p q) ins n := by
  have fp := (okR_len hp).1
  have fq := (okR_len hq).1
  have hr := chain_okB hp hq hio hn ht
  have R1 := (chain_emb1 (q := q) fp).run hp hr (ins' := ins) (ins := ins) (n := n) (fun _ _ _ _ => rfl) (fun _ _ _ _ h => h.elim)
  have R2 := (chain_emb2 fp fq hio).run hq hr (ins' := renL p ins n) (ins := ins) (n := n) (fun _ _ _ ⟨_, _, h1, h2, _⟩ => absurd h2 h1) (fun i hi k hk h1 => by
    have ha := formed_a fq hk h1
    have hal : (ndI q.nodes (k : Int)).a.toNat < p.outputs.length := by omega
    rw [renL_get hal hi, (R1 i hi).2]
    have ho := outs_at fp hal
    unfold atL chPhi
    rw [getD_map_range _ _ (by omega), chain_inp hk h1])
  unfold renL
  show _ = (mapL (chainBy p q) q.outputs).map _
  unfold mapL
  rw [List.map_map]
  refine List.map_congr_left fun o ho => ?_
  have hob := (formed_iff.1 fq).2.2.2.2.2 o ho
  refine List.map_congr_left fun i hi => ?_
  have hi' : i < n := by simpa using hi
  show (vsI q (renL p ins n) i).getD o.toNat 0 = (vsI (chainP p q) ins i).getD ((chainBy p q).getD o.toNat 0).toNat 0
  rw [(R2 i hi').2]
  unfold atL chPhi
  rw [getD_map_range _ _ (by omega)]
end
end Go.Proofs.Ytdjoaaccnadccaa

namespace Go.Proofs.Ytdjoaaccnadccaa
open Go.ChangeShapes Go.WideShapes Go.ChangeAt Go.RowKit Go.Sort
set_option linter.unusedVariables false

/-- a list of its own and a code -/
def RetI (w : World) (L : List Int) (code : Int) (e : Ending) (w' : World) : Prop := ∃ u M, e = .returned (.tuple #[u, .int .i64 code]) ∧ OwnLI w.heap.size w' u L M ∧ Dis M ∧ Below w.heap.size w w'
theorem RetI.mk {w w' : World} {L : List Int} {code : Int} {u : Value} {B : Nat} (h : OwnI B w' u L) (hB : w.heap.size ≤ B) (hb : Below w.heap.size w w') : RetI w L code (.returned (.tuple #[u, .int .i64 code])) w' :=
  ⟨u, [u], rfl, ⟨h.mono hB, rfl⟩, List.pairwise_singleton _ _, hb⟩
def orderRes (x : PatchD) : List Int := if okB x then orderL x.nodes else []
def orderCode (x : PatchD) : Int := if formedB x then (if (orderL x.nodes).length = x.nodes.length then 0 else 7) else 1
theorem orderRes_small (x : PatchD) : cntI (orderRes x) ≤ 1048576 := by
  unfold cntI orderRes
  split
  · rename_i h
    have h1 := (formed_iff.1 (by unfold okB at h; rw [Bool.and_eq_true] at h; exact h.1)).2.2.1
    have h2 := orderL_len x.nodes
    omega
  · show (0 : Nat) ≤ 1048576; omega
/-- the code for a node of a patch -/
def askCode (x : PatchD) (node : Int) : Int := if okB x then (if inB node 0 (x.nodes.length - 1) then 0 else 2) else 1
theorem askCode_of {x : PatchD} {node : Int} {a b : Bool} (h1 : okB x = a) (h2 : inB node 0 (x.nodes.length - 1) = b) : askCode x node = if a then (if b then 0 else 2) else 1 := by unfold askCode; rw [h1, h2]
theorem okB_len {x : PatchD} (h : okB x = true) : formedB x = true ∧ (orderL x.nodes).length = x.nodes.length ∧ x.nodes.length ≤ 24 := by
  unfold okB at h
  rw [Bool.and_eq_true, decide_eq_true_iff] at h
  exact ⟨h.1, h.2, (formed_iff.1 h.1).2.2.1⟩
theorem any_contains' (xs : List Int) (n : Int) : xs.any (fun y => n == y) = xs.contains n := by
  rw [Bool.eq_iff_iff]
  simp
def usersK (nodes : List NodeD) (node : Int) (k : Nat) : List Int := ((List.range k).filter fun i => (nodes.getD i ⟨0, 0, 0, []⟩).src.contains node).map fun i => ((i : Nat) : Int)
theorem usersK_succ {nodes : List NodeD} {node : Int} {k : Nat} (h : k < nodes.length) {b : Bool} (hb : nodes[k].src.contains node = b) : usersK nodes node (k + 1) = usersK nodes node k ++ (if b then [(k : Int)] else []) := by
  unfold usersK
  rw [List.range_succ, List.filter_append, List.map_append]
  congr 1
  rw [List.filter_cons, getD_node h, hb]
  cases b <;> rfl
theorem usersK_len (nodes : List NodeD) (node : Int) (k : Nat) : (usersK nodes node k).length ≤ k := by
  unfold usersK
  rw [List.length_map]
  have := List.length_filter_le (fun i => (nodes.getD i ⟨0, 0, 0, []⟩).src.contains node) (List.range k)
  rw [List.length_range] at this
  exact this
def usersRes (x : PatchD) (node : Int) : List Int := if askCode x node = 0 then usersK x.nodes node x.nodes.length else []
theorem askCode_zero {x : PatchD} {node : Int} : askCode x node = 0 ↔ okB x = true ∧ inB node 0 (x.nodes.length - 1) = true := by
  unfold askCode
  cases okB x <;> cases inB node 0 ((x.nodes.length : Int) - 1) <;> simp
theorem usersRes_small (x : PatchD) (node : Int) : cntI (usersRes x node) ≤ 1048576 := by
  unfold cntI usersRes
  split
  · rename_i h
    have h1 := (okB_len (askCode_zero.1 h).1).2.2
    have h2 := usersK_len x.nodes node x.nodes.length
    omega
  · show (0 : Nat) ≤ 1048576; omega
end Go.Proofs.Ytdjoaaccnadccaa

namespace Go.Proofs.Ytdjoaaccnadccaa
open Go.ChangeShapes Go.WideShapes Go.ChangeAt Go.RowKit
set_option linter.unusedVariables false

/-! ### a slice of integers of the call's own that may begin within its block -/
def OwnQ (B : Nat) (w : World) (v : Value) (xs : List Int) : Prop :=
  ∃ p c, v = .slice p xs.length c ∧ xs.length ≤ c ∧ c ≤ maxLen ∧ (c = 0 ∨ ∃ g o, p = some ⟨g, o, none⟩ ∧ B ≤ g ∧ g < w.heap.size ∧ w.there g o c ∧ ∀ i (h : i < xs.length), w.cell? ⟨g, o + i, none⟩ = some (.int .i64 xs[i]))
theorem OwnQ.of {B : Nat} {w : World} {v : Value} {xs : List Int} (h : OwnI B w v xs) : OwnQ B w v xs := by
  have h' := h
  rcases h'.2 with ⟨rfl, h0⟩ | ⟨g, cap, cur, rfl, hb, hg, hn, hm, hs, ht⟩
  · obtain rfl : xs = [] := List.eq_nil_of_length_eq_zero h0
    exact ⟨none, 0, rfl, Nat.le_refl _, by simp [maxLen], .inl rfl⟩
  · have hgl : g < w.heap.size := (Array.getElem?_eq_some_iff.1 hg).1
    refine ⟨_, cap, rfl, hn, hm, .inr ⟨g, 0, rfl, hb, hgl, fun j hj => ⟨?_, World.ownsRow.frozenAt h _⟩, fun i hi => ?_⟩⟩
    · rw [cell_of_row w g _ cur _ (0, 0) hg]
      simp [hs, hj]
    · rw [Nat.zero_add, World.ownsRow.cellAt h i (by omega), List.getElem?_map, List.getElem?_eq_getElem hi]; rfl
theorem OwnQ.keep {B : Nat} {w w' : World} {v : Value} {xs : List Int} (h : OwnQ B w v xs) (hs : w.heap.size ≤ w'.heap.size) (hk : ∀ k, B ≤ k → k < w.heap.size → v.ownBlock = some k → w'.heap[k]? = w.heap[k]?) : OwnQ B w' v xs := by
  obtain ⟨p, c, rfl, h1, h2, h3⟩ := h
  refine ⟨p, c, rfl, h1, h2, h3.imp id fun ⟨g, o, e, hB, hg, ht, hc⟩ => ?_⟩
  subst e
  have hh := hk g hB hg rfl
  exact ⟨g, o, rfl, hB, by omega, fun j hj => ⟨by rw [World.cell?_of_block (a := ⟨g, o + j, none⟩) hh]; exact (ht j hj).1, by rw [World.frozen?_of_block (a := ⟨g, o + j, none⟩) hh]; exact (ht j hj).2⟩, fun i hi => (World.cell?_of_block (a := ⟨g, o + i, none⟩) hh).trans (hc i hi)⟩
theorem OwnQ.below {B : Nat} {w w' : World} {v : Value} {xs : List Int} (h : OwnQ B w v xs) (hb : Below w.heap.size w w') : OwnQ B w' v xs := h.keep hb.size fun k _ hk _ => hb.block k hk
theorem OwnQ.cons {B : Nat} {w : World} {v : Value} {x : Int} {xs : List Int} (h : OwnQ B w v (x :: xs)) :
    ∃ g o c, v = .slice (some ⟨g, o, none⟩) (xs.length + 1) (c + 1) ∧ xs.length ≤ c ∧ c + 1 ≤ maxLen ∧ B ≤ g ∧ g < w.heap.size ∧ w.cell? ⟨g, o, none⟩ = some (.int .i64 x) ∧
      OwnQ B w (.slice (if c + 1 = 1 then some ⟨g, o, none⟩ else some ⟨g, o + 1, none⟩) xs.length c) xs := by
  obtain ⟨p, c, rfl, h1, h2, h3⟩ := h
  simp only [List.length_cons] at h1
  obtain ⟨c, rfl⟩ : ∃ c', c = c' + 1 := ⟨c - 1, by omega⟩
  rcases h3 with h3 | ⟨g, o, rfl, hB, hg, ht, hc⟩
  · omega
  refine ⟨g, o, c, rfl, by omega, h2, hB, hg, hc 0 (by simp), ?_⟩
  refine ⟨_, c, rfl, by omega, by omega, ?_⟩
  by_cases e : c = 0
  · exact .inl e
  · refine .inr ⟨g, o + 1, by rw [if_neg (by omega)], hB, hg, fun j hj => ?_, fun i hi => ?_⟩
    · have := ht (j + 1) (by omega)
      rwa [show o + (j + 1) = o + 1 + j by omega] at this
    · have := hc (i + 1) (by simp; omega)
      rw [show o + (i + 1) = o + 1 + i by omega] at this
      rw [this]; simp
theorem setCells_frame (g : Nat) : ∀ (vs : List Value) (o : Nat) (w : World), (w.setCells g o vs).os = w.os ∧ (w.setCells g o vs).tape = w.tape ∧ (w.setCells g o vs).output = w.output ∧ (w.setCells g o vs).heap.size = w.heap.size ∧ ∀ k, k ≠ g → (w.setCells g o vs).heap[k]? = w.heap[k]?
  | [], _, _ => ⟨rfl, rfl, rfl, rfl, fun _ _ => rfl⟩
  | v :: vs, o, w => by
    obtain ⟨h1, h2, h3, h4, h5⟩ := setCells_frame g vs (o + 1) (w.setCell ⟨g, o, none⟩ v)
    exact ⟨h1, h2, h3, h4.trans (by simp [World.setCell]), fun k hk => (h5 k hk).trans (Below.heap_setCell _ _ _ _ hk)⟩
theorem srcI {w : World} {p : Option Addr} {ys : List Int} (h : RdI w p ys) (c : Nat) : Src Try.prog 1 26 (.slice p ys.length c) ys.length (ys.map (Value.int .i64)) w := by
  have one : ∀ u ∈ ys.map (Value.int .i64), u.oneCell' = true := by
    intro u hu
    simp only [List.mem_map] at hu
    obtain ⟨y, _, rfl⟩ := hu
    rfl
  rcases h.cells with rfl | ⟨b, o, rfl, hc⟩
  · cases p with
    | none => exact Src.ofNil w Try.underlying26 c
    | some a => exact Src.ofSlice w Try.underlying26 a 0 c [] (by simp) (by simp) (by simp)
  · refine Src.ofSlice w Try.underlying26 ⟨b, o, none⟩ ys.length c _ (by simp) (fun j u hu => ?_) one
    rw [List.getElem?_map] at hu
    rcases hj : ys[j]? with _ | y
    · rw [hj] at hu; simp at hu
    · rw [hj] at hu
      obtain ⟨hjl, hjy⟩ := List.getElem?_eq_some_iff.1 hj
      rw [Addr.add_lit, hc j hjl, hjy]
      simpa using hu
/-- append of a list to such a slice -/
theorem run_append_q (w : World) (ty : TypeId) {B : Nat} {v : Value} {xs ys : List Int} (hq : OwnQ B w v xs) {p : Option Addr} {c : Nat} (hr : RdI w p ys) (hlen : xs.length + ys.length ≤ 17592186044415) (hB : B ≤ w.heap.size) :
    ∃ v' w', (Builtin.append_ #[26, 26] ty #[v, .slice p ys.length c]).run Try.prog w = .ok v' w' ∧ OwnQ B w' v' (xs ++ ys) ∧ w.grownBy w' v.ownBlock := by
  obtain ⟨i0, hi, hz0, hz1, hz2⟩ := info_parts infoI
  have hS := srcI hr c
  obtain ⟨q, cc, rfl, h1, h2, h3⟩ := hq
  have e1 : (xs ++ ys).length = xs.length + ys.length := by simp
  by_cases hroom : xs.length + ys.length ≤ cc
  · rcases h3 with h3 | ⟨g, o, rfl, hBg, hg, ht, hc⟩
    · have hx : xs = [] := List.eq_nil_of_length_eq_zero (by omega)
      have hy : ys = [] := List.eq_nil_of_length_eq_zero (by omega)
      subst hx hy h3
      refine ⟨.slice q 0 0, w, ?_, ⟨q, 0, rfl, Nat.le_refl _, by simp [maxLen], .inl rfl⟩, ⟨rfl, rfl, rfl, Nat.le_refl _, fun _ _ _ => rfl⟩⟩
      cases q <;> cases p <;> simp [Builtin.append_, run_underlying Try.underlying26, sizeOf, typeInfo, hi, Builtin.lenOf, Builtin.firstCells, loadCells, loadCellsFrom, storeCells]
    · have hh := run_append_room_src w 26 26 ty 2 i0 Try.underlying26 hi g o xs.length cc (.slice p ys.length c) ys.length (ys.map (Value.int .i64)) (by rw [hz1]; exact hS) hroom
        (fun j hj => by rw [hz1, Nat.mul_one, Nat.add_assoc]; exact (ht _ (by simp at hj; omega)).1) (fun j hj => by rw [hz1, Nat.mul_one, Nat.add_assoc]; exact (ht _ (by simp at hj; omega)).2)
      rw [hz1, Nat.mul_one] at hh
      obtain ⟨f1, f2, f3, f4, f5⟩ := setCells_frame g (ys.map (Value.int .i64)) (o + xs.length) w
      refine ⟨_, _, hh, ⟨_, cc, by rw [e1], by omega, h2, .inr ⟨g, o, rfl, hBg, by omega, World.there_setCells ht _ _ _, fun i hi => ?_⟩⟩, ⟨f1, f2, f3, by omega, fun k _ hk => f5 k fun e => hk (by rw [e]; rfl)⟩⟩
      by_cases hix : i < xs.length
      · rw [World.cell?_setCells_out g _ _ _ _ (fun _ _ => Or.inl (by simp; omega)), hc i hix, List.getElem_append_left hix]
      · rw [e1] at hi
        have := World.cell?_setCells_in g (ys.map (Value.int .i64)) (o + xs.length) w (fun j hj => by rw [Nat.add_assoc]; exact (ht _ (by simp at hj; omega)).1) (i - xs.length) (by simp; omega)
        rw [show o + xs.length + (i - xs.length) = o + i by omega] at this
        rw [this, List.getElem_map, List.getElem_append_right (by omega)]
  · have hold : (Builtin.firstCells i0.size xs.length (.slice q xs.length cc)).run Try.prog w.drew = .ok (xs.map (Value.int .i64)).toArray w.drew := by
      rw [hz1]
      rcases h3 with h3 | ⟨g, o, rfl, hBg, hg, ht, hc⟩
      · have hx : xs = [] := List.eq_nil_of_length_eq_zero (by omega)
        subst hx
        cases q with
        | none => exact run_firstCells_none w.drew 1 0 0 cc
        | some a => exact run_firstCells_some w.drew 1 0 a 0 cc [] (by simp) (by simp)
      · refine run_firstCells_some w.drew 1 xs.length ⟨g, o, none⟩ xs.length cc _ (by simp) (fun j u hu => ?_)
        rw [List.getElem?_map] at hu
        rcases hj : xs[j]? with _ | y
        · rw [hj] at hu; simp at hu
        · rw [hj] at hu
          obtain ⟨hjl, hjy⟩ := List.getElem?_eq_some_iff.1 hj
          rw [Addr.add_lit]
          have := hc j hjl
          rw [hjy] at this
          simp only [Option.map_some, Option.some.injEq] at hu
          rw [← hu]
          exact this
    have hh := run_append_grow_src w 26 26 ty 2 i0 (.int .i64 0) Try.underlying26 hi hz0 q xs.length cc _ hold (.slice p ys.length c) ys.length _ (by rw [hz1]; exact hS) (by omega) (by omega)
      (by rw [hz2]; exact growslice_fits (by omega) (by omega))
    have hown : OwnI B (w.drew.alloc (.cells ((xs.map (Value.int .i64) ++ ys.map (Value.int .i64)).toArray ++ Builtin.zeroCells (Value.int .i64 0).cells (grownCap w (xs.length + ys.length) cc 2 - (xs.length + ys.length))) 2)) (.slice (some ⟨w.heap.size, 0, none⟩) (xs.length + ys.length) (grownCap w (xs.length + ys.length) cc 2)) (xs ++ ys) := by
      have hge := grownCap_ge w (xs.length + ys.length) cc 2
      have hcm : grownCap w (xs.length + ys.length) cc 2 ≤ maxLen := grownCap_le_maxLen w _ cc _ (by simp only [maxLen]; omega)
      unfold OwnI
      rw [e1]
      refine ⟨by simp, .inr ⟨w.heap.size, _, _, rfl, hB, heap_alloc_new w.drew _, hge, hcm, ?_, ?_⟩⟩
      · simp only [Array.size_append, List.size_toArray, size_zeroCells, List.length_append, List.length_map]
        show _ + _ * 1 = _
        omega
      · simp only [Array.toList_append, List.map_append]
        rw [show (xs.length + ys.length) * 1 = (xs.map (Value.int .i64) ++ ys.map (Value.int .i64)).length by simp]
        exact List.take_left
    exact ⟨_, _, hh, OwnQ.of hown, ⟨rfl, rfl, rfl, by simp, fun k hk _ => Below.heap_alloc w.drew _ k hk⟩⟩
theorem wpList_append_q {ops : Array Oper} {rest : List Oper} {o : Oper} {a : Act} {Q : Exit → Act → World → Prop} {w : World} (hgd : o.guard = none) (s x : Operand)
    (ho : o.op = .call { callee := .builtin .append, args := #[s, x], argTypes := #[26, 26] })
    {B : Nat} {v : Value} {xs ys : List Int} (hs : a.eval s = v) (hown : OwnQ B w v xs) {p : Option Addr} {m c : Nat} (hr : RdI w p ys) (hx : a.eval x = .slice p m c) (hm : m = ys.length) (hlen : xs.length + ys.length ≤ 17592186044415) (hB : B ≤ w.heap.size)
    (h : ∀ v' w', OwnQ B w' v' (xs ++ ys) → w.grownBy w' v.ownBlock → wpList Try.prog ops Q rest (a.put o.dst v') w') : wpList Try.prog ops Q (o :: rest) a w := by
  subst hm
  refine wpList_plain hgd fun K hK => ?_
  obtain ⟨v', w', h1, h2, h3⟩ := run_append_q w o.type hown (c := c) hr hlen hB
  unfold Oper.wp execOp
  simp only [ho, resolve, invoke, builtin, Sem.run_bind, Sem.run_pure, Result.andThen_ok, List.map_toArray, List.map_cons, List.map_nil, hs, hx, h1]
  exact hK _ _ (h v' w' h2 h3)
end Go.Proofs.Ytdjoaaccnadccaa

namespace Go.Proofs.Ytdjoaaccnadccaa
open Go.ChangeShapes Go.WideShapes Go.ChangeAt Go.RowKit Go.Sort
set_option linter.unusedVariables false

end Go.Proofs.Ytdjoaaccnadccaa

namespace Go.Proofs.Ytdjoaaccnadccaa
open Go.ChangeShapes Go.WideShapes Go.ChangeAt Go.RowKit
set_option linter.unusedVariables false

theorem mbool (m : List Bool) {f : Nat} (h : f < m.length) (h' : f < (m.map Value.bool).length) : (m.map Value.bool)[f] = .bool (m.getD f false) := by
  rw [List.getElem_map, List.getD_eq_getElem?_getD, List.getElem?_eq_getElem h]; rfl
theorem OwnV.apart {B B' : Nat} {w : World} {E E' : TypeId} {v v' : Value} {L L' : List Value} (h : OwnV B w E v L) (h' : OwnV B' w E' v' L') (hE : E ≠ E') {k : Nat} (hk : v.ownBlock = some k) : v'.ownBlock ≠ some k := by
  intro hk'
  rcases h.cases with ⟨rfl, -⟩ | ⟨g, cap, rfl, -, -, ⟨cur, hg⟩, -⟩
  · simp [Value.ownBlock] at hk
  rcases h'.cases with ⟨rfl, -⟩ | ⟨g', cap', rfl, -, -, ⟨cur', hg'⟩, -⟩
  · simp [Value.ownBlock] at hk'
  simp only [Value.ownBlock, Option.some.injEq] at hk hk'
  subst hk hk'
  rw [hg] at hg'
  simp only [Option.some.injEq, Obj.cells.injEq] at hg'
  exact hE hg'.2.1
theorem OwnI.asV {B : Nat} {w : World} {v : Value} {xs : List Int} (h : OwnI B w v xs) : OwnV B w 2 v (xs.map (Value.int .i64)) := by
  unfold OwnV; rw [List.length_map]; exact h
end Go.Proofs.Ytdjoaaccnadccaa

namespace Go.Proofs.Ytdjoaaccnadccaa
open Go.ChangeShapes Go.WideShapes Go.ChangeAt Go.RowKit
set_option linter.unusedVariables false

theorem putAll_snoc {out l : List Int} {k : Nat} (h : k < l.length) : putAll out (l.take (k + 1)) = putR (putAll out (l.take k)) l[k] := by
  unfold putAll
  rw [List.take_succ_eq_append_getElem h, List.foldl_append]
  rfl
theorem putAll_cons {out l : List Int} {k : Nat} (h : k < l.length) : putAll out (l.drop k) = putAll (putR out l[k]) (l.drop (k + 1)) := by
  rw [List.drop_eq_getElem_cons h]; rfl
theorem rndL_cons {nodes : List NodeD} {out l : List Int} {k : Nat} (h : k < l.length) : rndL nodes out (l.drop k) = rndL nodes (putAll out (srcs nodes l[k])) (l.drop (k + 1)) := by
  rw [List.drop_eq_getElem_cons h]; rfl
/-- rising places in the patch: not more than there are nodes -/
def Pl (n : Nat) (xs : List Int) : Prop := Rising xs ∧ ∀ i ∈ xs, 0 ≤ i ∧ i < (n : Int)
theorem Pl.len {n : Nat} {xs : List Int} (h : Pl n xs) : xs.length ≤ n := rising_len (a := 0) h.1 fun i hi => by have := h.2 i hi; omega
theorem Pl.put {n : Nat} {xs : List Int} (h : Pl n xs) {i : Int} (h0 : 0 ≤ i) (h1 : i < (n : Int)) : Pl n (putR xs i) := ⟨putR_rising h.1, fun j hj => by
  rcases mem_putR.1 hj with rfl | hj
  · exact ⟨h0, h1⟩
  · exact h.2 j hj⟩
theorem Pl.nil (n : Nat) : Pl n [] := ⟨by simp [Rising], by simp⟩
def needRes (x : PatchD) : List Int := if okB x then need x else []
theorem needRes_small (x : PatchD) : cntI (needRes x) ≤ 1048576 := by
  unfold cntI needRes
  split
  · rename_i h
    have h1 := okB_n24 h
    have h2 := need_length x
    omega
  · simp
end Go.Proofs.Ytdjoaaccnadccaa

namespace Go.Proofs.Ytdjoaaccnadccaa
open Go.ChangeShapes Go.WideShapes Go.ChangeAt Go.RowKit
set_option linter.unusedVariables false

theorem formed_small {x : PatchD} (h : formedB x = true) : Small x := by
  have hf := formed_iff.1 h
  have ok := formed_src h
  have ht := hf.2.1
  unfold tablesB at ht
  simp only [Bool.and_eq_true, List.all_eq_true, decide_eq_true_eq] at ht
  refine ⟨by omega, fun t ht' => ?_, by omega, fun n hn => by have := ok.len n hn; omega, by omega⟩
  have := ht.1 t ht'
  unfold tblB at this
  simp only [Bool.and_eq_true, Bool.or_eq_true, decide_eq_true_eq] at this
  omega
theorem OwnN.empty {B : Nat} (w : World) (hB : B ≤ w.heap.size) : OwnN B (w.alloc (.cells #[] 50)) (.slice (some ⟨w.heap.size, 0, none⟩) 0 0) [] [] := by
  have h := World.ownsRow_lit (base := B) (e := 50) (size := 4) w #[] 0 hB (by simp [maxLen]) (by simp)
  exact ⟨rfl, by simpa [nodeCells] using h⟩
theorem nodeAt_eq {nodes : List NodeD} {m : Nat} (h : m < nodes.length) : nodeAt nodes (m : Int) = nodes[m] := by
  unfold nodeAt; rw [Int.toNat_natCast, List.getD_eq_getElem?_getD, List.getElem?_eq_getElem h]; rfl
end Go.Proofs.Ytdjoaaccnadccaa

namespace Go.Proofs.Ytdjoaaccnadccaa
open Go.ChangeShapes Go.WideShapes Go.ChangeAt Go.RowKit
set_option linter.unusedVariables false

/-- a list of the call's own lies in no block that a patch under construction writes -/
theorem OwnI.pastRow {B : Nat} {w w' : World} {v u : Value} {xs : List Int} {E : TypeId} (h : OwnI B w v xs) (hE : E ≠ 2) (ht : Typed w E u) (hg : w.grownBy w' u.ownBlock) : OwnI B w' v xs :=
  h.keep fun k hk => hg.block k (h.lt hk).2 fun e => ht.ne (Typed.of h) hE e.symm hk
theorem OwnI.pastBox {B : Nat} {w : World} {v u : Value} {xs cs : List Int} {s i : Nat} {L : List Value} {T : TypeId} (h : OwnI B w v xs) (hb : Box w s L T) (hT : (2 : TypeId) ≠ T) : OwnI B (w.setCell ⟨s, i, none⟩ u) v xs :=
  h.keep fun k hk => Below.heap_setCell _ _ _ _ fun e => (Typed.of h).neBox hb hT (by rw [hk]; exact congrArg some e)
theorem inA {m t n : Int} {x : NodeD} (h : ndB m t n x = true) (hk : x.kind = 1) : 0 ≤ x.a ∧ x.a < m := by
  unfold ndB nodeB at h
  simp only [Bool.and_eq_true] at h
  have h2 := h.1.2
  rw [hk] at h2
  simp only [beq_self_eq_true, Bool.true_and, Bool.not_eq_true', decide_eq_false_iff_not] at h2
  have h1 := h.1.1.1.1.1.2
  rw [hk] at h1
  have : 0 ≤ x.a := by
    unfold abB at h1
    simp [kLo, kHi, inB] at h1
    omega
  exact ⟨this, by omega⟩
theorem rdI_of {B : Nat} {w : World} {p : Option Addr} {n c : Nat} {xs : List Int} (h : OwnI B w (.slice p n c) xs) : n = xs.length ∧ RdI w p xs := by
  obtain ⟨q, d, e, hr⟩ := h.rd
  simp only [Value.slice.injEq] at e
  obtain ⟨rfl, rfl, rfl⟩ := e
  exact ⟨rfl, hr⟩
theorem OwnI.pastNode {B B' : Nat} {w w' : World} {v v2 u : Value} {xs : List Int} {ns : List NodeD} {s i : Nat} {L cs : List Value} (h : OwnI B w v xs) (h2 : OwnN B' w v2 ns L) (hb : Box w s cs 28) (hg : w.grownBy w' v2.ownBlock) : OwnI B (w'.setCell ⟨s, i, none⟩ u) v xs := by
  refine (h.pastRow (by decide) (Typed.of h2.2) hg).keep fun k hk => Below.heap_setCell _ _ _ _ fun e => ?_
  exact (Typed.of h).neBox hb (by decide) (by rw [hk]; exact congrArg some e)
end Go.Proofs.Ytdjoaaccnadccaa

namespace Go.Proofs.Ytdjoaaccnadccaa
open Go.ChangeShapes Go.WideShapes Go.ChangeAt Go.RowKit
set_option linter.unusedVariables false

/-- a patch behind a pointer, out of its parts -/
theorem OwnP.vpatch {B : Nat} {w : World} {v1 v2 v3 : Value} {ts : List (List Int)} {ns : List NodeD} {os : List Int} {L1 L : List Value} (h : OwnP B w v1 v2 v3 ts ns os L1 L) (inp : Int) : VPatch w (.agg #[.int .i64 inp, v1, v2, v3]) ⟨inp, ts, ns, os⟩ := (h.patch inp).1.rd
theorem pp_of {w : World} {s : Nat} {inp : Int} {v1 v2 v3 : Value} {x : PatchD} (hv : VPatch w (.agg #[.int .i64 inp, v1, v2, v3]) x) (bx : Box w s [.int .i64 inp, v1, v2, v3] 28) : PPatch w s x := by
  obtain ⟨p1, c1, p2, c2, p3, c3, e, r1, r2, r3⟩ := hv
  simp only [Value.agg.injEq, Array.mk.injEq, List.cons.injEq, and_true] at e
  obtain ⟨e0, rfl, rfl, rfl⟩ := e
  rw [e0] at bx
  exact ⟨p1, c1, p2, c2, p3, c3, bx, r1, r2, r3⟩
end Go.Proofs.Ytdjoaaccnadccaa

namespace Go.Proofs.Ytdjoaaccnadccaa
open Go.ChangeShapes Go.WideShapes Go.ChangeAt Go.RowKit
set_option linter.unusedVariables false

theorem sepB {B : Nat} {W F : World} {v v' : Value} {xs ys : List Int} (h : OwnI B W v xs) (h' : OwnI W.heap.size F v' ys) : ∀ k, v.ownBlock = some k → v'.ownBlock ≠ some k := fun k hk hk' => by
  have h1 := (h.lt hk).2
  have h2 := (h'.lt hk').1
  omega
theorem sepB' {B : Nat} {W F : World} {v v' : Value} {xs ys : List Int} (h : OwnI B W v' ys) (h' : OwnI W.heap.size F v xs) : ∀ k, v.ownBlock = some k → v'.ownBlock ≠ some k := fun k hk hk' => by
  have h1 := (h.lt hk').2
  have h2 := (h'.lt hk).1
  omega
theorem OwnP.done {B : Nat} {w W2 : World} {r : Nat} {inp : Int} {v1 v2 v3 : Value} {ts : List (List Int)} {ns : List NodeD} {os : List Int} {L1 L : List Value} (hop : OwnP B W2 v1 v2 v3 ts ns os L1 L) (bri : Box W2 r zPatch 28) (hb : Below w.heap.size w W2) (hr : w.heap.size ≤ r) (hB : w.heap.size ≤ B) :
    Box ((((W2.setCell ⟨r, 0, none⟩ (.int .i64 inp)).setCell ⟨r, 1, none⟩ v1).setCell ⟨r, 2, none⟩ v2).setCell ⟨r, 3, none⟩ v3) r [.int .i64 inp, v1, v2, v3] 28 ∧
    OwnP w.heap.size ((((W2.setCell ⟨r, 0, none⟩ (.int .i64 inp)).setCell ⟨r, 1, none⟩ v1).setCell ⟨r, 2, none⟩ v2).setCell ⟨r, 3, none⟩ v3) v1 v2 v3 ts ns os L1 L ∧
    Below w.heap.size w ((((W2.setCell ⟨r, 0, none⟩ (.int .i64 inp)).setCell ⟨r, 1, none⟩ v1).setCell ⟨r, 2, none⟩ v2).setCell ⟨r, 3, none⟩ v3) := by
  have b0 := bri.set 0 (.int .i64 inp)
  have b1 := b0.set 1 v1
  have b2 := b1.set 2 v2
  have b3 := b2.set 3 v3
  exact ⟨by simpa [zPatch] using b3, (((((hop.setBox bri patchT 0 _).setBox b0 patchT 1 _).setBox b1 patchT 2 _).setBox b2 patchT 3 _)).mono hB,
    (((hb.setCell (p := ⟨r, 0, none⟩) hr _).setCell (p := ⟨r, 1, none⟩) hr _).setCell (p := ⟨r, 2, none⟩) hr _).setCell (p := ⟨r, 3, none⟩) hr _⟩
theorem zeros_at (n : Nat) (w : World) (hn : n ≤ 1048576) :
    Calls Try.prog 18 #[.int .i64 n] w fun e w' => ∃ D, e = .returned (.slice (some ⟨D, 0, none⟩) n n) ∧ OwnI w.heap.size w' (.slice (some ⟨D, 0, none⟩) n n) (List.replicate n 0) ∧ Below w.heap.size w w' := by
  have hmk := fun w => run_make_row' (P := Try.prog) 26 2 (.int .i64 0) 8 Try.underlying26 infoI rfl .i64 .i64 n (by omega) (by omega) w
  have h0 := OwnI.made (B := w.heap.size) w n (Nat.le_refl _) (by unfold maxLen; omega)
  go_enter Try.func18, Try.ntmps18
  go_wp2_with fail
  go_ret
  exact ⟨_, rfl, h0, (Below.refl _ _).alloc (Nat.le_refl _) _⟩
end Go.Proofs.Ytdjoaaccnadccaa

namespace Go.Proofs.Ytdjoaaccnadccaa
open Go.ChangeShapes Go.WideShapes Go.ChangeAt Go.RowKit
set_option linter.unusedVariables false

def linK (n : NodeD) : Bool := kindLinear n.kind
def linP (x : PatchD) : Bool := okB x && (need x).all fun i => linK (nodeAt x.nodes i)
theorem trimP_lin (x : PatchD) : (trimP x).nodes.all linK = (need x).all fun i => linK (nodeAt x.nodes i) := by
  show ((need x).map (keepN x.nodes _)).all linK = _
  rw [List.all_map]
  rfl
end Go.Proofs.Ytdjoaaccnadccaa

namespace Go.Proofs.Ytdjoaaccnadccaa
open Go.ChangeShapes Go.WideShapes Go.ChangeAt Go.RowKit
set_option linter.unusedVariables false

def cntS (x : PatchD) : Int := if okB x then (lens ((need x).map fun i => startL (nodeAt x.nodes i)) : Int) else 0
theorem trimP_count (x : PatchD) : lens ((trimP x).nodes.map startL) = lens ((need x).map fun i => startL (nodeAt x.nodes i)) := by
  show lens (((need x).map (keepN x.nodes _)).map startL) = _
  rw [List.map_map]
  rfl
theorem keepN_ok {x : PatchD} (h : formedB x = true) {keep : List Int} (hk : keep.length ≤ 24) {i : Int} (h0 : 0 ≤ i) (h1 : i < (x.nodes.length : Int)) : nodeB (keepN x.nodes (byL x.nodes.length keep) i) 4 = true := by
  have hf := formed_iff.1 h
  obtain ⟨m, rfl⟩ : ∃ m : Nat, i = m := ⟨i.toNat, by omega⟩
  have hm : m < x.nodes.length := by omega
  have hn := hf.2.2.2.2.1 _ (List.getElem_mem hm)
  have ht := hf.2.1
  unfold tablesB at ht
  unfold ndB nodeB at hn
  simp only [Bool.and_eq_true, decide_eq_true_eq, Bool.or_eq_true] at hn ht
  unfold keepN nodeB
  rw [nodeAt_eq hm]
  simp only [Bool.and_eq_true, decide_eq_true_eq, Bool.or_eq_true, List.all_eq_true, inB_iff, mapL_length]
  refine ⟨⟨⟨⟨inB_iff.1 hn.1.1.1.1.1.1, hn.1.1.1.1.1.2⟩, fun s hs => ?_⟩, hn.1.1.1.2⟩, ?_⟩
  · have := mapL_rng (byL_rng (n := x.nodes.length) hk (by omega)) (by omega) s hs
    omega
  · rcases hn.1.1.2 with h | h
    · exact .inl h
    · exact .inr (by omega)
theorem trimP_ok {x : PatchD} (h : okB x = true) : (∀ n ∈ (trimP x).nodes, nodeB n 4 = true) ∧ (trimP x).nodes.length ≤ 24 := by
  have h24 := okB_n24 h
  have hl := need_length x
  constructor
  · intro n hn
    obtain ⟨i, hi, rfl⟩ := List.mem_map.1 hn
    exact keepN_ok (okB_len h).1 (by omega) (need_rng i hi).1 (need_rng i hi).2
  · show ((need x).map _).length ≤ 24
    rw [List.length_map]; omega
theorem lens16 : ∀ (ns : List NodeD), (∀ n ∈ ns, nodeB n 4 = true) → lens (ns.map startL) ≤ 16 * ns.length
  | [], _ => by simp [lens]
  | n :: ns, h => by
    have h1 := startL_length (startOk_of (h n (List.mem_cons_self ..)))
    have h2 := lens16 ns fun m hm => h m (List.mem_cons_of_mem _ hm)
    rw [List.map_cons, lens_cons, List.length_cons]
    omega
theorem lens_map_succ {α : Type} {f : α → List Int} {xs : List α} {k : Nat} (h : k < xs.length) : lens ((xs.take (k + 1)).map f) = lens ((xs.take k).map f) + (f xs[k]).length := by
  rw [List.take_succ_eq_append_getElem h, List.map_append, lens_append]
  congr 1
end Go.Proofs.Ytdjoaaccnadccaa

namespace Go.Proofs.Ytdjoaaccnadccaa
open Go.ChangeShapes Go.WideShapes Go.ChangeAt Go.RowKit
set_option linter.unusedVariables false

/-- a patch and a code, as results -/
def RetPC (w : World) (x : PatchD) (code : Int) (e : Ending) (w' : World) : Prop := ∃ u L, e = .returned (.tuple #[u, .int .i64 code]) ∧ OwnPatch w.heap.size w' u x L ∧ Dis L ∧ Below w.heap.size w w'
theorem RetPC.mk {w w' : World} {x : PatchD} {code : Int} {v1 v2 v3 : Value} {L1 L : List Value} {B : Nat} {inp : Int} (hi : inp = x.inputs) (h : OwnP B w' v1 v2 v3 x.tables x.nodes x.outputs L1 L) (hB : w.heap.size ≤ B) (hb : Below w.heap.size w w') :
    RetPC w x code (.returned (.tuple #[.agg #[.int .i64 inp, v1, v2, v3], .int .i64 code])) w' := by
  subst hi
  have hp := (h.mono hB).patch x.inputs
  exact ⟨_, _, rfl, hp.1, hp.2, hb⟩
def noPatch : PatchD := ⟨0, [], [], []⟩
theorem OwnP.none0 (B : Nat) (w : World) : OwnP B w (.slice none 0 0) (.slice none 0 0) (.slice none 0 0) [] [] [] [] [] := OwnP.nil w (OwnI.nil B w)
def trimRes (x : PatchD) : PatchD := if okB x then trimP x else noPatch
theorem lens_rows : ∀ (ts : List (List Int)) (m : Nat), (∀ t ∈ ts, t.length ≤ m) → lens ts ≤ m * ts.length
  | [], m, _ => by simp [lens]
  | t :: ts, m, h => by
    have h1 := h t (List.mem_cons_self ..)
    have h2 := lens_rows ts m fun u hu => h u (List.mem_cons_of_mem _ hu)
    rw [lens_cons, List.length_cons, Nat.mul_add]
    omega
theorem cntPatch_small {x : PatchD} (sm : Small x) : cntPatch x ≤ 6291456 := by
  have h1 := lens_rows x.tables 1000 sm.rows
  have h2 := lens_rows (x.nodes.map NodeD.src) 1000 fun t ht => by
    obtain ⟨n, hn, rfl⟩ := List.mem_map.1 ht
    exact sm.srcs n hn
  have h3 := sm.tables
  have h4 := sm.nodes
  have h5 := sm.outs
  rw [List.length_map] at h2
  unfold cntPatch cntII cntNodeS cntI
  omega
theorem trimP_small {x : PatchD} (h : okB x = true) : Small (trimP x) := by
  have sm := formed_small (okB_len h).1
  have hk := trimP_ok h
  refine ⟨sm.tables, sm.rows, by omega, fun n hn => ?_, ?_⟩
  · obtain ⟨i, hi, rfl⟩ := List.mem_map.1 hn
    show (mapL _ _).length ≤ 1000
    rw [mapL_length]
    obtain ⟨m, rfl⟩ : ∃ m : Nat, i = m := ⟨i.toNat, by have := need_rng i hi; omega⟩
    have hm : m < x.nodes.length := by have := need_rng _ hi; omega
    rw [nodeAt_eq hm]
    exact sm.srcs _ (List.getElem_mem hm)
  · show (mapL _ _).length ≤ 1000
    rw [mapL_length]; exact sm.outs
theorem trimRes_small (x : PatchD) : cntPatch (trimRes x) ≤ 6291456 := by
  unfold trimRes
  split
  · rename_i h
    exact cntPatch_small (trimP_small h)
  · exact cntPatch_small ⟨by simp [noPatch], by simp [noPatch], by simp [noPatch], by simp [noPatch], by simp [noPatch]⟩
end Go.Proofs.Ytdjoaaccnadccaa

namespace Go.Proofs.Ytdjoaaccnadccaa
open Go.ChangeShapes Go.WideShapes Go.ChangeAt Go.RowKit
set_option linter.unusedVariables false

def chFull (p q : PatchD) : Bool := decide (24 < chCnt p.nodes.length q.nodes) || decide (4 < p.tables.length + q.tables.length)
def chCode (p q : PatchD) : Int := if okB p && okB q then (if (p.outputs.length : Int) = q.inputs then (if chFull p q then 5 else 0) else 6) else 1
def chRes (p q : PatchD) : PatchD := if okB p && okB q && decide ((p.outputs.length : Int) = q.inputs) && !chFull p q then chainP p q else noPatch
theorem chNs_src {t : Int} {by_ : List Int} {ns : List NodeD} (h : ∀ n ∈ ns, n.src.length ≤ 1000) : ∀ n ∈ chNs t by_ ns, n.src.length ≤ 1000 := by
  induction ns with
  | nil => intro n hn; simp [chNs] at hn
  | cons m ms ih =>
    intro n hn
    have ih' := ih fun a ha => h a (List.mem_cons_of_mem _ ha)
    unfold chNs at hn
    split at hn
    · exact ih' n hn
    · rcases List.mem_cons.1 hn with rfl | hn
      · show (mapL _ _).length ≤ 1000
        rw [mapL_length]; exact h m (List.mem_cons_self ..)
      · exact ih' n hn
theorem chainP_small {p q : PatchD} (hp : okB p = true) (hq : okB q = true) : Small (chainP p q) := by
  have sp := formed_small (okB_len hp).1
  have sq := formed_small (okB_len hq).1
  have np := okB_n24 hp
  have nq := okB_n24 hq
  have tp := (formed_iff.1 (okB_len hp).1).2.1
  have tq := (formed_iff.1 (okB_len hq).1).2.1
  unfold tablesB at tp tq
  simp only [Bool.and_eq_true, decide_eq_true_eq] at tp tq
  have hc := chNs_length (p.tables.length : Int) (chainBy p q) 0 q.nodes
  have hc2 := chCnt_le 0 q.nodes
  refine ⟨?_, fun t ht => ?_, ?_, fun n hn => ?_, ?_⟩
  · show (p.tables ++ q.tables).length ≤ 1000
    rw [List.length_append]; omega
  · rcases List.mem_append.1 ht with ht | ht
    · exact sp.rows t ht
    · exact sq.rows t ht
  · show (p.nodes ++ chNs _ _ _).length ≤ 1000
    rw [List.length_append]; omega
  · rcases List.mem_append.1 hn with hn | hn
    · exact sp.srcs n hn
    · exact chNs_src sq.srcs n hn
  · show (mapL _ _).length ≤ 1000
    rw [mapL_length]; exact sq.outs
theorem chRes_small (p q : PatchD) : cntPatch (chRes p q) ≤ 6291456 := by
  unfold chRes
  split
  · rename_i h
    simp only [Bool.and_eq_true] at h
    exact cntPatch_small (chainP_small h.1.1.1 h.1.1.2)
  · exact cntPatch_small ⟨by simp [noPatch], by simp [noPatch], by simp [noPatch], by simp [noPatch], by simp [noPatch]⟩
theorem ch_bad {p q : PatchD} (h : (okB p && okB q) = false) : chRes p q = noPatch ∧ chCode p q = 1 := by
  unfold chRes chCode; rw [h]; exact ⟨rfl, rfl⟩
theorem ch_io {p q : PatchD} (h1 : okB p = true) (h2 : okB q = true) (h : (p.outputs.length : Int) ≠ q.inputs) : chRes p q = noPatch ∧ chCode p q = 6 := by
  unfold chRes chCode; rw [h1, h2, decide_eq_false h, if_neg h]; exact ⟨rfl, rfl⟩
theorem ch_full {p q : PatchD} (h1 : okB p = true) (h2 : okB q = true) (h : (p.outputs.length : Int) = q.inputs) (hf : chFull p q = true) : chRes p q = noPatch ∧ chCode p q = 5 := by
  unfold chRes chCode; rw [h1, h2, decide_eq_true h, if_pos h, hf]; exact ⟨rfl, rfl⟩
theorem ch_good {p q : PatchD} (h1 : okB p = true) (h2 : okB q = true) (h : (p.outputs.length : Int) = q.inputs) (hf : chFull p q = false) : chRes p q = chainP p q ∧ chCode p q = 0 := by
  unfold chRes chCode; rw [h1, h2, decide_eq_true h, if_pos h, hf]; exact ⟨rfl, rfl⟩
end Go.Proofs.Ytdjoaaccnadccaa
