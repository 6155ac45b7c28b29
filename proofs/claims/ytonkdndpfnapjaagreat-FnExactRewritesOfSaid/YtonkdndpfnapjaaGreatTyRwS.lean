/-
  Slices of rewrites: how they lie in memory; contracts of the laws' helpers for them; RewritesOf on both sides.
-/
import Derived.Test.YtonkdndpfnapjaaGreatApY
namespace Go.Proofs.YtonkdndpfnapjaaGreat
open Go.ChangeShapes Go.WideShapes Go.ChangeAt Go.RowKit Go.Sort
set_option linter.unusedVariables false

theorem rwCells_cons (r : Int × Int) (rs : List (Int × Int)) : rwCells (r :: rs) = .int .i64 r.1 :: .int .i64 r.2 :: rwCells rs := rfl
theorem rwCells_get : ∀ (rs : List (Int × Int)) (i : Nat) (h : i < rs.length), (rwCells rs)[i * 2]? = some (.int .i64 rs[i].1) ∧ (rwCells rs)[i * 2 + 1]? = some (.int .i64 rs[i].2)
  | [], i, h => by simp at h
  | r :: rs, 0, _ => ⟨rfl, rfl⟩
  | r :: rs, i + 1, h => by
    have := rwCells_get rs i (by simpa using h)
    rw [rwCells_cons, show (i + 1) * 2 = i * 2 + 1 + 1 by omega]
    simpa using this
theorem rwCells_put : ∀ (rs : List (Int × Int)) (k : Nat) (a b : Int), k < rs.length →
    ((rwCells rs).set (k * 2) (.int .i64 a)).set (k * 2 + 1) (.int .i64 b) = rwCells (rs.set k (a, b))
  | [], k, _, _, h => by simp at h
  | r :: rs, 0, _, _, _ => rfl
  | r :: rs, k + 1, a, b, h => by
    have := rwCells_put rs k a b (by simpa using h)
    rw [rwCells_cons, show (k + 1) * 2 = k * 2 + 1 + 1 by omega]
    simp only [List.set_cons_succ, rwCells_cons]
    rw [this]
/-- the slice of rewrites at p reads rs -/
structure RdRw (w : World) (p : Option Addr) (rs : List (Int × Int)) : Prop where
  len : rs.length ≤ maxLen
  cells : rs = [] ∨ ∃ b o, p = some ⟨b, o, none⟩ ∧ ∀ i, (h : i < rs.length) → w.cell? ⟨b, o + i * 2, none⟩ = some (.int .i64 rs[i].1) ∧ w.cell? ⟨b, o + i * 2 + 1, none⟩ = some (.int .i64 rs[i].2)
theorem RdRw.nil (w : World) (p : Option Addr) : RdRw w p [] := ⟨by simp [maxLen], .inl rfl⟩
theorem RdRw.pos {w : World} {p : Option Addr} {rs : List (Int × Int)} (h : RdRw w p rs) {k : Nat} (hk : k < rs.length) :
    ∃ b o, p = some ⟨b, o, none⟩ ∧ b < w.heap.size ∧ ∀ i, (h : i < rs.length) → w.cell? ⟨b, o + i * 2, none⟩ = some (.int .i64 rs[i].1) ∧ w.cell? ⟨b, o + i * 2 + 1, none⟩ = some (.int .i64 rs[i].2) := by
  rcases h.cells with rfl | ⟨b, o, e, hc⟩
  · simp at hk
  · exact ⟨b, o, e, World.block_lt_of_cell? w _ (hc k hk).1, hc⟩
theorem RdRw.below {w w' : World} {p : Option Addr} {rs : List (Int × Int)} (h : RdRw w p rs) (hb : Below w.heap.size w w') : RdRw w' p rs := by
  refine ⟨h.len, ?_⟩
  rcases h.cells with rfl | ⟨b, o, e, hc⟩
  · exact .inl rfl
  · exact .inr ⟨b, o, e, fun i hi => ⟨(hb.cell (p := ⟨b, o + i * 2, none⟩) (World.block_lt_of_cell? w _ (hc i hi).1)).trans (hc i hi).1, (hb.cell (p := ⟨b, o + i * 2 + 1, none⟩) (World.block_lt_of_cell? w _ (hc i hi).2)).trans (hc i hi).2⟩⟩
def VRewriteS (w : World) (v : Value) (rs : List (Int × Int)) : Prop := ∃ p c, v = .slice p rs.length c ∧ RdRw w p rs
theorem VRewriteS.below {w w' : World} {v : Value} {rs : List (Int × Int)} (h : VRewriteS w v rs) (hb : Below w.heap.size w w') : VRewriteS w' v rs := by
  obtain ⟨p, c, rfl, hr⟩ := h
  exact ⟨p, c, rfl, hr.below hb⟩
theorem OwnR.cases {B : Nat} {w : World} {v : Value} {rs : List (Int × Int)} (h : OwnR B w v rs) :
    (v = .slice none 0 0 ∧ rs = []) ∨ ∃ g cap, v = .slice (some ⟨g, 0, none⟩) rs.length cap ∧ B ≤ g ∧ g < w.heap.size ∧ rs.length ≤ maxLen ∧
      (∀ i, (hi : i < rs.length) → w.cell? ⟨g, i * 2, none⟩ = some (.int .i64 rs[i].1) ∧ w.cell? ⟨g, i * 2 + 1, none⟩ = some (.int .i64 rs[i].2)) := by
  rcases h.2 with ⟨h1, h2⟩ | ⟨g, cap, cur, hv, hB, hg, hn, hm, hs, ht⟩
  · exact .inl ⟨h1, List.eq_nil_of_length_eq_zero h2⟩
  · refine .inr ⟨g, cap, hv, hB, (Array.getElem?_eq_some_iff.1 hg).1, by omega, fun i hi => ?_⟩
    have hh : w.ownsRow B 40 2 (.slice (some ⟨g, 0, none⟩) rs.length cap) rs.length (rwCells rs) := by rw [← hv]; exact h
    obtain ⟨c0, c1⟩ := rwCells_get rs i hi
    exact ⟨(hh.cellAt _ (by omega)).trans c0, (hh.cellAt _ (by omega)).trans c1⟩
theorem OwnR.rd {B : Nat} {w : World} {v : Value} {rs : List (Int × Int)} (h : OwnR B w v rs) : VRewriteS w v rs := by
  rcases h.cases with ⟨rfl, rfl⟩ | ⟨g, cap, rfl, hB, hg, hm, hc⟩
  · exact ⟨none, 0, rfl, RdRw.nil _ _⟩
  · exact ⟨_, cap, rfl, hm, .inr ⟨g, 0, rfl, fun i hi => by rw [Nat.zero_add]; exact hc i hi⟩⟩
theorem OwnR.storing {B : Nat} {w : World} {g n cap : Nat} {rs : List (Int × Int)} (h : OwnR B w (.slice (some ⟨g, 0, none⟩) n cap) rs) {k : Nat} (hk : k < rs.length) :
    (∃ u0 u1, w.cell? ⟨g, k * 2, none⟩ = some u0 ∧ w.cell? ⟨g, k * 2 + 1, none⟩ = some u1) ∧ (∀ j, w.frozen? ⟨g, j, none⟩ = false) ∧
      ∀ a b : Int, OwnR B ((w.setCell ⟨g, k * 2, none⟩ (.int .i64 a)).setCell ⟨g, k * 2 + 1, none⟩ (.int .i64 b)) (.slice (some ⟨g, 0, none⟩) n cap) (rs.set k (a, b)) := by
  rcases h.cases with ⟨h1, _⟩ | ⟨g', cap', h1, hB, hlt, _, hc⟩
  · simp at h1
  · simp only [Value.slice.injEq, Option.some.injEq, Addr.mk.injEq, and_true] at h1
    obtain ⟨rfl, rfl, rfl⟩ := h1
    obtain ⟨c0, c1⟩ := hc k hk
    refine ⟨⟨_, _, c0, c1⟩, fun j => World.ownsRow.frozenAt h j, fun a b => ?_⟩
    have h0 := (World.ownsRow.stored h (k * 2) (.int .i64 a)).1
    have h1 := (World.ownsRow.stored h0 (k * 2 + 1) (.int .i64 b)).1
    rw [rwCells_put _ _ _ _ hk] at h1
    unfold OwnR
    rw [List.length_set]
    exact h1
/-- a slice of rewrites of its own -/
def OwnRewriteS (B : Nat) (w : World) (v : Value) (rs : List (Int × Int)) (L : List Value) : Prop := OwnR B w v rs ∧ L = [v]
theorem OwnRewriteS.rd {B : Nat} {w : World} {v : Value} {rs : List (Int × Int)} {L : List Value} (h : OwnRewriteS B w v rs L) : VRewriteS w v rs := h.1.rd
theorem OwnRewriteS.blk {B : Nat} {w : World} {v : Value} {rs : List (Int × Int)} {L : List Value} (h : OwnRewriteS B w v rs L) {b : Nat} (hb : Blk L b) : B ≤ b ∧ b < w.heap.size := by
  obtain ⟨u, hu, hb⟩ := hb
  rw [h.2, List.mem_singleton] at hu
  subst hu
  exact h.1.lt hb
theorem OwnRewriteS.off {B : Nat} {w w' : World} {v : Value} {rs : List (Int × Int)} {L : List Value} (h : OwnRewriteS B w v rs L) (hk : ∀ k, B ≤ k → k < w.heap.size → Blk L k → w'.heap[k]? = w.heap[k]?) : OwnRewriteS B w' v rs L :=
  ⟨h.1.keep fun k hb => hk k (h.1.lt hb).1 (h.1.lt hb).2 ⟨v, by rw [h.2]; exact List.mem_singleton.2 rfl, hb⟩, h.2⟩
theorem OwnRewriteS.keeps {B : Nat} {w w' : World} {v : Value} {rs : List (Int × Int)} {L : List Value} (h : OwnRewriteS B w v rs L) (hk : ∀ k, B ≤ k → k < w.heap.size → w'.heap[k]? = w.heap[k]?) : OwnRewriteS B w' v rs L :=
  h.off fun k h1 h2 _ => hk k h1 h2
theorem OwnRewriteS.offBlk {B : Nat} {w w' : World} {v : Value} {rs : List (Int × Int)} {L M : List Value} (h : OwnRewriteS B w v rs L) (_hi : IntBlks w M) (hd : ∀ b, Blk L b → ¬ Blk M b) (hf : Off (Blk M) w w') : OwnRewriteS B w' v rs L :=
  h.off fun k _ hk hb => hf.block k hk (hd k hb)
theorem OwnRewriteS.below {B : Nat} {w w' : World} {v : Value} {rs : List (Int × Int)} {L : List Value} (h : OwnRewriteS B w v rs L) (hb : Below w.heap.size w w') : OwnRewriteS B w' v rs L := h.keeps fun k _ hk => hb.block k hk
theorem OwnRewriteS.ints {B : Nat} {w : World} {v : Value} {rs : List (Int × Int)} {L : List Value} (h : OwnRewriteS B w v rs L) : IntBlks w L := by
  rintro b ⟨u, hu, hb⟩
  rw [h.2, List.mem_singleton] at hu
  subst hu
  obtain ⟨cur, hg⟩ := h.1.typed hb
  exact ⟨cur, _, hg, .inr (.inr (.inr rfl))⟩
def cntRewriteS (rs : List (Int × Int)) : Nat := 2 * rs.length
def markRewriteS (m : Int) (rs : List (Int × Int)) : List (Int × Int) := (List.range rs.length).map fun i : Nat => (m + 2 * (i : Int), m + 2 * (i : Int) + 1)
theorem markRewriteS_length (m : Int) (rs : List (Int × Int)) : (markRewriteS m rs).length = rs.length := by simp [markRewriteS]
theorem markRewriteS_get (m : Int) (rs : List (Int × Int)) (k : Nat) (h : k < (markRewriteS m rs).length) (t : Int) (ht : t = m + 2 * (k : Int)) : (markRewriteS m rs)[k] = (t, t + 1) := by
  subst ht; simp [markRewriteS]
set_option maxHeartbeats 1600000 in
theorem eqRewrite_v (r n : Int) (w : World) : Calls Tryz.prog 51 #[.agg #[.int .i64 r, .int .i64 n], .agg #[.int .i64 r, .int .i64 n]] w fun e w' => e = .returned (.bool true) ∧ Below w.heap.size w w' := by
  go_enter Tryz.func51, Tryz.ntmps51
  go_wp2_with fail
  go_ret
  exact ⟨rfl, ((Below.refl _ _).alloc (Nat.le_refl _) _).alloc (by simp) _⟩
set_option maxHeartbeats 1600000 in
theorem eqRewriteS_v {v v' : Value} {xs : List (Int × Int)} (w : World) (h : VRewriteS w v xs) (h' : VRewriteS w v' xs) :
    Calls Tryz.prog 19 #[v, v'] w fun e w' => e = .returned (.bool true) ∧ Below w.heap.size w w' := by
  obtain ⟨p, c, rfl, h⟩ := h
  obtain ⟨p', c', rfl, h'⟩ := h'
  have hl := h.len
  unfold maxLen at hl
  go_enter Tryz.func19, Tryz.ntmps19
  go_wp2_with fail
  go_loopw [5] (fun i wr => ∃ k : Nat, k ≤ xs.length ∧ i = .int .i64 k ∧ Below w.heap.size w wr) (fun i _ => xs.length - (intOf i).toNat)
  case atStart => exact ⟨0, Nat.zero_le _, rfl, Below.refl _ _⟩
  case round =>
    obtain ⟨k, hk, rfl, hbel⟩ := hrel
    obtain ⟨wi, rfl⟩ : ∃ wi : World, wi = wr := ⟨_, rfl⟩
    by_cases hlt : k < xs.length
    · obtain ⟨b, o, rfl, hb, hc⟩ := (h.below hbel).pos hlt
      obtain ⟨b', o', rfl, hb', hc'⟩ := (h'.below hbel).pos hlt
      obtain ⟨z0, z1⟩ := hc k hlt
      obtain ⟨y0, y1⟩ := hc' k hlt
      generalize xs[k] = x at z0 z1 y0 y1
      obtain ⟨xa, xb⟩ := x
      dsimp only at z0 z1 y0 y1
      have r0 := cell_regrown z0
      have r1 := cell_regrown z1
      have s0 := cell_regrown y0
      have s1 := cell_regrown y1
      have K1 : Hid (∀ n os, Calls Tryz.prog 51 #[.agg #[.int .i64 xa, .int .i64 xb], .agg #[.int .i64 xa, .int .i64 xb]] (grow (redrawn wi n) os) fun e w'' => e = .returned (.bool true) ∧ ∃ p : Regrown, w'' = grow (redrawn wi p.d) p.os) := fun n os => Calls.regrown_of (eqRewrite_v xa xb _)
      clear hc hc' z0 z1 y0 y1
      go_wp2_with fail
      refine wp_region_quiet_below (by kernel_rfl) (by kernel_rfl) ?_
      repeat (first | go_big_quiet_step ((go_at_call 51; exact K1.out _ _)) | quiet_step ((go_at_call 51; exact K1.out _ _)))
      refine wpQuiet_nil ?_
      intro _ hw'
      obtain ⟨⟨dq, osq⟩, hw''⟩ := hw'
      subst hw''
      have hq := hbel.trans ((below_regrown wi dq osq).mono hbel.size)
      generalize grow (redrawn wi dq) osq = F at hq ⊢
      go_wp2_with fail
      go_roundw
      case rel => exact ⟨k + 1, by omega, by go_num, hq⟩
      case measure => simp [intOf] <;> omega
    · obtain rfl : k = xs.length := by omega
      go_wp2_with fail
      go_ret
      exact ⟨rfl, hbel⟩
set_option maxHeartbeats 1600000 in
theorem markRewriteS_v {B : Nat} {v : Value} {xs : List (Int × Int)} {M : List Value} (m : Int) (w : World) (h : OwnRewriteS B w v xs M) (hd : Dis M) (hm0 : 0 ≤ m) (hm : m + cntRewriteS xs ≤ 1099511627776) :
    Calls Tryz.prog 20 #[v, .int .i64 m] w fun e w' => e = .returned (.int .i64 (m + cntRewriteS xs)) ∧ OwnRewriteS B w' v (markRewriteS m xs) M ∧ Off (Blk M) w w' := by
  obtain ⟨ho, rfl⟩ := h
  have hrd := ho.rd
  obtain ⟨p, c, rfl, hr⟩ := hrd
  have hl := hr.len
  unfold maxLen at hl
  unfold cntRewriteS at hm ⊢
  clear hr
  have HA := Lib.hid (markRewriteS_length m xs)
  go_enter Tryz.func20, Tryz.ntmps20
  go_wp2_with fail
  go_loopw [1, 5] (fun q i wr => ∃ k : Nat, k ≤ xs.length ∧ i = .int .i64 k ∧ ∃ t : Int, t = m + 2 * (k : Int) ∧ q = .int .i64 t ∧ OwnR B wr (.slice p xs.length c) (mix (markRewriteS m xs) xs k) ∧ Off (Blk [.slice p xs.length c]) w wr) (fun _ i _ => xs.length - (intOf i).toNat)
  case atStart => exact ⟨0, Nat.zero_le _, rfl, m, by simp, rfl, by rw [mix_zero]; exact ho, Off.refl _ _⟩
  case round =>
    obtain ⟨k, hk, rfl, t, ht, rfl, hown, hof⟩ := hrel
    obtain ⟨wi, rfl⟩ : ∃ wi : World, wi = wr := ⟨_, rfl⟩
    clear ho
    by_cases hlt : k < xs.length
    · have hml : (mix (markRewriteS m xs) xs k).length = xs.length := mix_length HA.out hk
      have hY := markRewriteS_get m xs k (by rw [HA.out]; exact hlt) t ht
      have hmx := mix_succ HA.out hlt
      rw [hY] at hmx
      rcases hown.cases with ⟨e, _⟩ | ⟨g, cap, e, hB, hg, _, hc⟩
      · simp only [Value.slice.injEq] at e
        omega
      simp only [Value.slice.injEq] at e
      obtain ⟨rfl, -, rfl⟩ := e
      obtain ⟨⟨u0, u1, z0, z1⟩, hfr, hst⟩ := hown.storing (k := k) (by rw [hml]; exact hlt)
      have f0 := hfr (k * 2)
      have f1 := hfr (k * 2 + 1)
      have hN := hst t (t + 1)
      rw [← hmx] at hN
      have hF : Off (Blk [.slice (some ⟨g, 0, none⟩) xs.length c]) w ((wi.setCell ⟨g, k * 2, none⟩ (.int .i64 t)).setCell ⟨g, k * 2 + 1, none⟩ (.int .i64 (t + 1))) := by
        refine hof.trans ⟨rfl, rfl, rfl, by simp, fun j hj hn => ?_⟩
        have hne : j ≠ g := fun e => hn ⟨_, List.mem_cons_self .., by simp [Value.ownBlock, e]⟩
        exact (Below.heap_setCell _ _ _ _ hne).trans (Below.heap_setCell _ _ _ _ hne)
      have HT : Hid (t = m + 2 * (k : Int)) := ht
      have hb1 : 0 ≤ t := by omega
      have hb2 : t + 2 ≤ 1099511627776 := by omega
      have HNN := Lib.hid hN
      have HF := Lib.hid hF
      clear ht hY hmx hc hfr hN hF hown hof hml hst
      go_wp2_with fail
      go_roundw
      case rel => exact ⟨k + 1, by omega, by go_num, t + 1 + 1, by have := HT.out; rw [this]; push_cast; omega, rfl, HNN.out, HF.out⟩
      case measure => simp [intOf] <;> omega
    · obtain rfl : k = xs.length := by omega
      rw [mix_all HA.out] at hown
      have HT : Hid (t = m + 2 * (xs.length : Int)) := ht
      clear ht
      go_wp2_with fail
      go_ret
      exact ⟨ret_int (by have := HT.out; omega), ⟨hown, rfl⟩, hof⟩
set_option maxHeartbeats 1600000 in
theorem heldRewriteS_v {v : Value} {xs : List (Int × Int)} (m : Int) (w : World) (h : VRewriteS w v (markRewriteS m xs)) (hm0 : 0 ≤ m) (hm : m + cntRewriteS xs ≤ 1099511627776) :
    Calls Tryz.prog 21 #[v, .int .i64 m] w fun e w' => e = .returned (.int .i64 (m + cntRewriteS xs)) ∧ Below w.heap.size w w' := by
  obtain ⟨p, c, rfl, h⟩ := h
  have hl := h.len
  unfold maxLen at hl
  unfold cntRewriteS at hm ⊢
  have HA := Lib.hid (markRewriteS_length m xs)
  rw [markRewriteS_length] at hl ⊢
  go_enter Tryz.func21, Tryz.ntmps21
  go_wp2_with fail
  go_loopw [1, 5] (fun q i wr => ∃ k : Nat, k ≤ xs.length ∧ i = .int .i64 k ∧ ∃ t : Int, t = m + 2 * (k : Int) ∧ q = .int .i64 t ∧ Below w.heap.size w wr) (fun _ i _ => xs.length - (intOf i).toNat)
  case atStart => exact ⟨0, Nat.zero_le _, rfl, m, by simp, rfl, Below.refl _ _⟩
  case round =>
    obtain ⟨k, hk, rfl, t, ht, rfl, hbel⟩ := hrel
    obtain ⟨wi, rfl⟩ : ∃ wi : World, wi = wr := ⟨_, rfl⟩
    by_cases hlt : k < xs.length
    · have hY := markRewriteS_get m xs k (by rw [HA.out]; exact hlt) t ht
      obtain ⟨b, o, rfl, hb, hc⟩ := (h.below hbel).pos (k := k) (by rw [HA.out]; exact hlt)
      have hnd := hc k (by rw [HA.out]; exact hlt)
      rw [hY] at hnd
      obtain ⟨z0, z1⟩ := hnd
      dsimp only at z0 z1
      have HT : Hid (t = m + 2 * (k : Int)) := ht
      have hb1 : 0 ≤ t := by omega
      have hb2 : t + 2 ≤ 1099511627776 := by omega
      clear ht hY hc
      go_wp2_with fail
      go_roundw
      case rel => exact ⟨k + 1, by omega, by go_num, t + 1 + 1, by have := HT.out; rw [this]; push_cast; omega, rfl, hbel⟩
      case measure => simp [intOf] <;> omega
    · obtain rfl : k = xs.length := by omega
      have HT : Hid (t = m + 2 * (xs.length : Int)) := ht
      clear ht
      go_wp2_with fail
      go_ret
      exact ⟨ret_int (by have := HT.out; omega), hbel⟩
noncomputable def rwRes (x : PatchD) : List (Int × Int) := if okB x then allR x else []
theorem rwRes_small (x : PatchD) : cntRewriteS (rwRes x) ≤ 6291456 := by
  unfold rwRes cntRewriteS
  split
  · rename_i h
    have := runs_len (runs_all h) h 720 (fuel_720 h)
    omega
  · simp
def RetRw (w : World) (rs : List (Int × Int)) (code : Int) (e : Ending) (w' : World) : Prop := ∃ u M, e = .returned (.tuple #[u, .int .i64 code]) ∧ OwnRewriteS w.heap.size w' u rs M ∧ Dis M ∧ Below w.heap.size w w'
theorem RetRw.mk {w w' : World} {rs : List (Int × Int)} {code : Int} {u : Value} {B : Nat} (h : OwnR B w' u rs) (hB : w.heap.size ≤ B) (hb : Below w.heap.size w w') : RetRw w rs code (.returned (.tuple #[u, .int .i64 code])) w' :=
  ⟨u, [u], rfl, ⟨h.mono hB, rfl⟩, List.pairwise_singleton _ _, hb⟩
theorem OwnR.none0 (B : Nat) (w : World) : OwnR B w (.slice none 0 0) [] := World.ownsRow_nil w B _ 2
set_option maxHeartbeats 1600000 in
set_option maxRecDepth 100000 in
theorem specRewritesOf_v {v : Value} {x : PatchD} (w : World) (h : VPatch w v x) :
    Calls Tryz.prog 17 #[v] w (RetRw w (rwRes x) (okCode x)) := by
  obtain ⟨p1, c1, p2, c2, p3, c3, rfl, hp⟩ := PPatch.of h
  obtain ⟨g, hg⟩ : ∃ g, g = w.heap.size := ⟨_, rfl⟩
  obtain ⟨E0, hE⟩ : ∃ E, E = w.alloc (.cells #[.int .i64 x.inputs, .slice p1 x.tables.length c1, .slice p2 x.nodes.length c2, .slice p3 x.outputs.length c3] 32) := ⟨_, rfl⟩
  have hB0 : Below w.heap.size w E0 := by rw [hE]; exact (Below.refl _ _).alloc (Nat.le_refl _) _
  have hp0 : PPatch E0 g x := by rw [hE, hg]; exact hp
  have HE := Lib.hid hE
  have HG := Lib.hid hg
  clear hE hg h hp
  have OK := Lib.hid (l07Ok_any _ hp0)
  cases hF : okB x
  case false =>
    rw [hF] at OK
    rw [show rwRes x = [] from by unfold rwRes; rw [hF]; rfl, show okCode x = 1 from by unfold okCode; rw [hF]; rfl]
    go_enter Tryz.func17, Tryz.ntmps17
    go_upto_region 1 with fail
    rw [← HE.out, ← HG.out]
    go_wp2_with fail
    refine OK.out.mono ?_
    rintro e W1 ⟨rfl, hb1⟩
    go_wp2_with fail
    refine bodyPost_ret (v := .tuple #[.slice none 0 0, .int .i64 1]) (by simp [results, Tryz.results17, go_sem, *]) rfl ?_
    exact RetRw.mk (OwnR.none0 _ _) (Nat.le_refl _) (hB0.trans (hb1.mono hB0.size))
  rw [hF] at OK
  rw [show rwRes x = allR x from by unfold rwRes; rw [hF]; rfl, show okCode x = 0 from by unfold okCode; rw [hF]; rfl]
  have K2 := Lib.hid (fun W (hW : Below E0.heap.size E0 W) => l10All_x W (hp0.below hW) hF (runs_all hF))
  generalize allP x = y at K2
  generalize allR x = rs at K2 ⊢
  go_enter Tryz.func17, Tryz.ntmps17
  go_upto_region 1 with fail
  rw [← HE.out, ← HG.out]
  go_wp2_with fail
  refine OK.out.mono ?_
  rintro e W1 ⟨rfl, hb1⟩
  have K3 := Lib.hid (K2.out W1 hb1)
  clear K2
  go_wp2_with fail
  refine K3.out.mono ?_
  rintro e W3 ⟨v1, v2, v3, L1, L, u, rfl, hop, hro, hb3⟩
  obtain ⟨q4, d4, rfl⟩ := hro.sl
  obtain ⟨q1, d1, e1⟩ := hop.o1.sl'
  obtain ⟨q2, d2, e2⟩ := hop.o2.sl
  obtain ⟨q3, d3, e3, -⟩ := hop.o3.rd
  subst e1 e2 e3
  clear hop
  have hb13 := Below.via hb1 hb3
  go_wp2_with fail
  refine bodyPost_ret (v := .tuple #[.slice q4 rs.length d4, .int .i64 0]) (by simp [results, Tryz.results17, go_sem, *]) rfl ?_
  exact RetRw.mk (hro.below ((Below.refl _ _).alloc (Nat.le_refl _) _)) (Nat.le_trans hB0.size hb1.size) (hB0.trans ((hb13.alloc hb13.size _).mono hB0.size))
set_option maxHeartbeats 1600000 in
set_option maxRecDepth 100000 in
theorem implRewritesOf_v {v : Value} {x : PatchD} (w : World) (h : VPatch w v x) :
    Calls Tryz.prog 18 #[v] w (RetRw w (rwRes x) (okCode x)) := by
  have hv := h
  obtain ⟨p1, c1, p2, c2, p3, c3, rfl, r1, r2, r3⟩ := h
  clear r1 r2 r3
  obtain ⟨g, hg⟩ : ∃ g, g = w.heap.size := ⟨_, rfl⟩
  obtain ⟨E0, hE⟩ : ∃ E, E = w.alloc (.cells #[.int .i64 x.inputs, .slice p1 x.tables.length c1, .slice p2 x.nodes.length c2, .slice p3 x.outputs.length c3] 32) := ⟨_, rfl⟩
  have hB0 : Below w.heap.size w E0 := by rw [hE]; exact (Below.refl _ _).alloc (Nat.le_refl _) _
  have bx : Box E0 g [.int .i64 x.inputs, .slice p1 x.tables.length c1, .slice p2 x.nodes.length c2, .slice p3 x.outputs.length c3] 32 := by rw [hE, hg]; exact Box.newAt w _ _ rfl
  have HE := Lib.hid hE
  have HG := Lib.hid hg
  clear hE hg
  have OK := Lib.hid (isPatch_v _ (hv.below hB0))
  have z0 := bx.cell 0 rfl
  have z1 := bx.cell 1 rfl
  have z2 := bx.cell 2 rfl
  have z3 := bx.cell 3 rfl
  cases hF : okB x
  case false =>
    rw [hF] at OK
    rw [show rwRes x = [] from by unfold rwRes; rw [hF]; rfl, show okCode x = 1 from by unfold okCode; rw [hF]; rfl]
    go_enter Tryz.func18, Tryz.ntmps18
    go_upto_region 1 with fail
    rw [← HE.out, ← HG.out]
    go_wp2_with fail
    refine OK.out.mono ?_
    rintro e W1 ⟨rfl, hb1⟩
    clear z0 z1 z2 z3
    go_wp2_with fail
    refine bodyPost_ret (v := .tuple #[.slice none 0 0, .int .i64 1]) (by simp [results, Tryz.results18, go_sem, *]) rfl ?_
    exact RetRw.mk (OwnR.none0 _ _) (Nat.le_refl _) (hB0.trans (hb1.mono hB0.size))
  rw [hF] at OK
  rw [show rwRes x = allR x from by unfold rwRes; rw [hF]; rfl, show okCode x = 0 from by unfold okCode; rw [hF]; rfl]
  have K1 : Hid (∀ W, Below E0.heap.size E0 W → Calls Tryz.prog 33 #[.agg #[.int .i64 x.inputs, .slice p1 x.tables.length c1, .slice p2 x.nodes.length c2, .slice p3 x.outputs.length c3]] W (RetA W (trimP (allP x)) (allR x))) := fun W hW => optimize_x W (hv.below (hB0.trans (hW.mono hB0.size))) hF (runs_all hF)
  generalize trimP (allP x) = KP at K1
  generalize allR x = rs at K1 ⊢
  clear hv
  go_enter Tryz.func18, Tryz.ntmps18
  go_upto_region 1 with fail
  rw [← HE.out, ← HG.out]
  go_wp2_with fail
  refine OK.out.mono ?_
  rintro e W1 ⟨rfl, hb1⟩
  have bx1 := bx.below hb1
  clear z0 z1 z2 z3
  have z0 := bx1.cell 0 rfl
  have z1 := bx1.cell 1 rfl
  have z2 := bx1.cell 2 rfl
  have z3 := bx1.cell 3 rfl
  go_wp2_with fail
  refine (K1.out W1 hb1).mono ?_
  rintro e W2 ⟨v1, v2, v3, L1, L, u, rfl, hop, hro, hb2⟩
  obtain ⟨q4, d4, rfl⟩ := hro.sl
  obtain ⟨q1, d1, e1⟩ := hop.o1.sl'
  obtain ⟨q2, d2, e2⟩ := hop.o2.sl
  obtain ⟨q3, d3, e3, -⟩ := hop.o3.rd
  subst e1 e2 e3
  clear hop
  have hb13 := Below.via hb1 hb2
  clear z0 z1 z2 z3
  go_wp2_with fail
  refine bodyPost_ret (v := .tuple #[.slice q4 rs.length d4, .int .i64 0]) (by simp [results, Tryz.results18, go_sem, *]) rfl ?_
  exact RetRw.mk (hro.below ((Below.refl _ _).alloc (Nat.le_refl _) _)) (Nat.le_trans hB0.size hb1.size) (hB0.trans ((hb13.alloc hb13.size _).mono hB0.size))
end Go.Proofs.YtonkdndpfnapjaaGreat
