/-
  One form for the helpers of the exact laws, type by type: V reads, Own lies in memory of its own with leaves L, wt is the size, cnt the number of marks.
-/
import Derived.Test.YtdcacmmglkcliaaGreatDoorSeq
import Derived.Test.YtdcacmmglkcliaaGreatDoorLawsInt
import Derived.Deep.RegionWith
import Derived.Deep.DeepCutAuto
namespace Go.Proofs.YtdcacmmglkcliaaGreatDoor
open Go.ChangeShapes Go.WideShapes Go.ChangeAt Go.RowKit
set_option linter.unusedVariables false

theorem below_drew' {B : Nat} {w w' : World} (h : Below B w.drew w') : Below B w w' := ⟨h.os, h.tape, h.output, h.size, h.block⟩

/-- what is left of a size -/
def szF (left : Int) (n : Nat) : Int := if left < n then -1 else left - n
theorem szF_neg {left : Int} {n : Nat} (h : szF left n < 0) (h0 : 0 ≤ left) : szF left n = -1 ∧ left < n := by
  unfold szF at *
  split at h
  · rename_i h'; rw [if_pos h']; exact ⟨rfl, h'⟩
  · omega
theorem szF_pos {left : Int} {n : Nat} (h : ¬ szF left n < 0) : szF left n = left - n ∧ (n : Int) ≤ left := by
  unfold szF at *
  split at h
  · omega
  · rename_i h'; rw [if_neg h']; exact ⟨rfl, by omega⟩
theorem szF_lt {left : Int} {n : Nat} (h : left < n) : szF left n = -1 := by unfold szF; rw [if_pos h]
theorem szF_ge {left : Int} {n : Nat} (h : (n : Int) ≤ left) : szF left n = left - n := by unfold szF; rw [if_neg (by omega)]

theorem blk_append {L M : List Value} {b : Nat} : Blk (L ++ M) b ↔ Blk L b ∨ Blk M b := by
  constructor
  · rintro ⟨u, hu, hb⟩
    rcases List.mem_append.1 hu with hu | hu
    · exact .inl ⟨u, hu, hb⟩
    · exact .inr ⟨u, hu, hb⟩
  · rintro (⟨u, hu, hb⟩ | ⟨u, hu, hb⟩)
    · exact ⟨u, List.mem_append_left _ hu, hb⟩
    · exact ⟨u, List.mem_append_right _ hu, hb⟩
theorem Dis.left {L M : List Value} (h : Dis (L ++ M)) : Dis L := (List.pairwise_append.1 h).1
theorem Dis.right {L M : List Value} (h : Dis (L ++ M)) : Dis M := (List.pairwise_append.1 h).2.1
theorem Dis.sep {L M : List Value} (h : Dis (L ++ M)) : ∀ b, Blk L b → ¬ Blk M b := by
  rintro b ⟨u, hu, hb⟩ ⟨u', hu', hb'⟩
  exact (List.pairwise_append.1 h).2.2 u hu u' hu' b hb hb'

/-- the types whose blocks a mark writes -/
abbrev mkT (T : TypeId) : Prop := T = 2 ∨ T = 26 ∨ T = 2 ∨ T = 2
/-- the blocks of L hold what a mark writes -/
def IntBlks (w : World) (L : List Value) : Prop := ∀ b, Blk L b → ∃ cur T, w.heap[b]? = some (.cells cur T (0, 0)) ∧ mkT T
theorem IntBlks.append {w : World} {L M : List Value} (h : IntBlks w L) (h' : IntBlks w M) : IntBlks w (L ++ M) := by
  rintro b ⟨u, hu, hb⟩
  rcases List.mem_append.1 hu with hu | hu
  · exact h b ⟨u, hu, hb⟩
  · exact h' b ⟨u, hu, hb⟩
theorem OwnI.ints {B : Nat} {w : World} {v : Value} {xs : List Int} (h : OwnI B w v xs) {b : Nat} (hb : v.ownBlock = some b) : ∃ cur T, w.heap[b]? = some (.cells cur T (0, 0)) ∧ mkT T := by
  rcases h.2 with ⟨hn, _⟩ | ⟨g, cap, cur, hv, _, hg, _⟩
  · rw [hn] at hb; simp [Value.ownBlock] at hb
  · rw [hv] at hb
    simp only [Value.ownBlock, Option.some.injEq] at hb
    subst hb
    exact ⟨cur, _, hg, .inl rfl⟩

theorem Box.offBlk {w w' : World} {g : Nat} {L M : List Value} {T : TypeId} (h : Box w g L T) (hT : ¬ mkT T) (hi : IntBlks w M) (hf : Off (Blk M) w w') : Box w' g L T :=
  h.keep (hf.block g h.lt fun hb => by
    obtain ⟨cur, T', hg, hm⟩ := hi g hb
    rw [Box, hg] at h
    simp only [Option.some.injEq, Obj.cells.injEq] at h
    rw [h.2.1] at hm
    exact hT hm)
/-- the leaves of one thing lie below those of another -/
theorem apart {L M : List Value} {a b : Nat} (hL : ∀ x, Blk L x → x < a) (hM : ∀ x, Blk M x → b ≤ x) (hab : a ≤ b) : ∀ x, Blk L x → ¬ Blk M x := fun x h h' => by have := hL x h; have := hM x h'; omega
theorem apart' {L M : List Value} {a b : Nat} (hL : ∀ x, Blk L x → x < a) (hM : ∀ x, Blk M x → b ≤ x) (hab : a ≤ b) : ∀ x, Blk M x → ¬ Blk L x := fun x h h' => by have := hL x h'; have := hM x h; omega

/-! ### slices of integers -/
def VI (w : World) (v : Value) (xs : List Int) : Prop := ∃ p c, v = .slice p xs.length c ∧ RdI w p xs
theorem VI.below {w w' : World} {v : Value} {xs : List Int} (h : VI w v xs) (hb : Below w.heap.size w w') : VI w' v xs := by
  obtain ⟨p, c, rfl, hr⟩ := h
  exact ⟨p, c, rfl, hr.below hb⟩
def OwnLI (B : Nat) (w : World) (v : Value) (xs : List Int) (L : List Value) : Prop := OwnI B w v xs ∧ L = [v]
theorem OwnLI.rd {B : Nat} {w : World} {v : Value} {xs : List Int} {L : List Value} (h : OwnLI B w v xs L) : VI w v xs := h.1.rd
theorem OwnLI.mono {B B' : Nat} {w : World} {v : Value} {xs : List Int} {L : List Value} (h : OwnLI B w v xs L) (hB : B' ≤ B) : OwnLI B' w v xs L := ⟨h.1.mono hB, h.2⟩
theorem OwnLI.blk {B : Nat} {w : World} {v : Value} {xs : List Int} {L : List Value} (h : OwnLI B w v xs L) {b : Nat} (hb : Blk L b) : B ≤ b ∧ b < w.heap.size := by
  obtain ⟨u, hu, hb⟩ := hb
  rw [h.2, List.mem_singleton] at hu
  subst hu
  exact h.1.lt hb
theorem OwnLI.off {B : Nat} {w w' : World} {v : Value} {xs : List Int} {L : List Value} (h : OwnLI B w v xs L) (hk : ∀ k, B ≤ k → k < w.heap.size → Blk L k → w'.heap[k]? = w.heap[k]?) : OwnLI B w' v xs L :=
  ⟨h.1.keep fun k hb => hk k (h.1.lt hb).1 (h.1.lt hb).2 ⟨v, by rw [h.2]; exact List.mem_singleton.2 rfl, hb⟩, h.2⟩
theorem OwnLI.ints {B : Nat} {w : World} {v : Value} {xs : List Int} {L : List Value} (h : OwnLI B w v xs L) : IntBlks w L := by
  rintro b ⟨u, hu, hb⟩
  rw [h.2, List.mem_singleton] at hu
  subst hu
  exact h.1.ints hb
theorem OwnLI.keeps {B : Nat} {w w' : World} {v : Value} {xs : List Int} {L : List Value} (h : OwnLI B w v xs L) (hk : ∀ k, B ≤ k → k < w.heap.size → w'.heap[k]? = w.heap[k]?) : OwnLI B w' v xs L :=
  h.off fun k h1 h2 _ => hk k h1 h2
theorem OwnLI.offBlk {B : Nat} {w w' : World} {v : Value} {xs : List Int} {L M : List Value} (h : OwnLI B w v xs L) (_hi : IntBlks w M) (hd : ∀ b, Blk L b → ¬ Blk M b) (hf : Off (Blk M) w w') : OwnLI B w' v xs L :=
  h.off fun k _ hk hb => hf.block k hk (hd k hb)
theorem OwnLI.below {B : Nat} {w w' : World} {v : Value} {xs : List Int} {L : List Value} (h : OwnLI B w v xs L) (hb : Below w.heap.size w w') : OwnLI B w' v xs L := h.keeps fun k _ hk => hb.block k hk
theorem OwnLI.dis {B : Nat} {w : World} {v : Value} {xs : List Int} {L : List Value} (h : OwnLI B w v xs L) : Dis L := by rw [h.2]; exact List.pairwise_singleton _ _
def wtI (xs : List Int) : Nat := xs.length
def cntI (xs : List Int) : Nat := xs.length
theorem cntI_le (xs : List Int) : cntI xs ≤ wtI xs := Nat.le_refl _
def markI (k : Int) (xs : List Int) : List Int := seqI k xs.length
theorem eqI_v {v v' : Value} {xs : List Int} (w : World) (h : VI w v xs) (h' : VI w v' xs) :
    Calls Tryz.prog 56 #[v, v'] w fun e w' => e = .returned (.bool true) ∧ Below w.heap.size w w' := by
  obtain ⟨p, c, rfl, hr⟩ := h
  obtain ⟨p', c', rfl, hr'⟩ := h'
  exact (eqInt64S_any w hr hr').mono fun e w' ⟨he, hw⟩ => ⟨he.trans (ret_bool (by simp)), hw.below _⟩
theorem markI_v {B : Nat} {v : Value} {xs : List Int} {L : List Value} (m : Int) (w : World) (h : OwnLI B w v xs L) (hd : Dis L) (hm0 : 0 ≤ m) (hm : m + cntI xs ≤ 1099511627776) :
    Calls Tryz.prog 59 #[v, .int .i64 m] w fun e w' => e = .returned (.int .i64 (m + cntI xs)) ∧ OwnLI B w' v (markI m xs) L ∧ Off (Blk L) w w' :=
  (markInt64S_any m w h.1 hm0 hm).mono fun e w' ⟨he, ho, hw⟩ => ⟨he, ⟨ho, h.2⟩, hw.mono fun k hk => ⟨v, by rw [h.2]; exact List.mem_singleton.2 rfl, hk⟩⟩
theorem heldI_v {v : Value} {xs : List Int} (m : Int) (w : World) (h : VI w v (markI m xs)) (hm0 : 0 ≤ m) (hm : m + cntI xs ≤ 1099511627776) :
    Calls Tryz.prog 62 #[v, .int .i64 m] w fun e w' => e = .returned (.int .i64 (m + cntI xs)) ∧ Below w.heap.size w w' := by
  obtain ⟨p, c, rfl, hr⟩ := h
  unfold markI at hr ⊢
  rw [seqI_length]
  exact (heldInt64S_any m w hr hm0 hm).mono fun e w' ⟨he, hw⟩ => ⟨he, by subst hw; exact Below.refl _ _⟩
/-! ### slices of slices of integers -/
def VII (w : World) (v : Value) (xs : List (List Int)) : Prop := ∃ p c, v = .slice p xs.length c ∧ RdII w p xs
theorem VII.below {w w' : World} {v : Value} {xs : List (List Int)} (h : VII w v xs) (hb : Below w.heap.size w w') : VII w' v xs := by
  obtain ⟨p, c, rfl, hr⟩ := h
  exact ⟨p, c, rfl, hr.below hb⟩
theorem OwnII.rdv {B : Nat} {w : World} {v : Value} {xs : List (List Int)} {L : List Value} (h : OwnII B w v xs L) : VII w v xs := h.rd
theorem OwnII.blk {B : Nat} {w : World} {v : Value} {xs : List (List Int)} {L : List Value} (h : OwnII B w v xs L) {b : Nat} (hb : Blk L b) : B ≤ b ∧ b < w.heap.size := ⟨(h.2.1.blk hb).1, (h.2.1.blk hb).2.1⟩
theorem OwnII.keeps {B : Nat} {w w' : World} {v : Value} {xs : List (List Int)} {L : List Value} (h : OwnII B w v xs L) (hk : ∀ k, B ≤ k → k < w.heap.size → w'.heap[k]? = w.heap[k]?) : OwnII B w' v xs L :=
  ⟨h.1.keep fun k hb => hk k (h.1.lt hb).1 (h.1.lt hb).2, h.2.1.keep fun k hb => hk k (h.2.1.blk hb).1 (h.2.1.blk hb).2.1, h.2.2⟩
theorem OwnII.ints {B : Nat} {w : World} {v : Value} {xs : List (List Int)} {L : List Value} (h : OwnII B w v xs L) : IntBlks w L := fun b hb => by
  obtain ⟨cur, hg⟩ := (h.2.1.blk hb).2.2
  exact ⟨cur, _, hg, .inl rfl⟩
theorem OwnII.offBlk {B : Nat} {w w' : World} {v : Value} {xs : List (List Int)} {L M : List Value} (h : OwnII B w v xs L) (hi : IntBlks w M) (hd : ∀ b, Blk L b → ¬ Blk M b) (hf : Off (Blk M) w w') : OwnII B w' v xs L := by
  refine ⟨h.1.keep fun k hk => hf.block k (h.1.lt hk).2 fun hb => ?_, h.2.1.keep fun k hk => hf.block k (h.2.1.blk hk).2.1 (hd k hk), h.2.2⟩
  obtain ⟨cur, T, hg, hm⟩ := hi k hb
  rcases h.1.cases with ⟨e, _⟩ | ⟨g, cap, e, _, _, ⟨cur', hg'⟩, _⟩
  · rw [e] at hk; simp [Value.ownBlock] at hk
  · rw [e] at hk
    simp only [Value.ownBlock, Option.some.injEq] at hk
    subst hk
    rw [hg] at hg'
    simp only [Option.some.injEq, Obj.cells.injEq] at hg'
    rw [hg'.2.1] at hm
    exact absurd hm (by decide)
theorem OwnII.dis {B : Nat} {w : World} {v : Value} {xs : List (List Int)} {L : List Value} (h : OwnII B w v xs L) : Dis L := h.2.2
def wtII (xs : List (List Int)) : Nat := xs.length + lens xs
def cntII (xs : List (List Int)) : Nat := lens xs
theorem cntII_le (xs : List (List Int)) : cntII xs ≤ wtII xs := by unfold cntII wtII; omega
def markII (k : Int) (xs : List (List Int)) : List (List Int) := marks k xs
theorem eqII_v {v v' : Value} {xs : List (List Int)} (w : World) (h : VII w v xs) (h' : VII w v' xs) :
    Calls Tryz.prog 54 #[v, v'] w fun e w' => e = .returned (.bool true) ∧ Below w.heap.size w w' := by
  obtain ⟨p, c, rfl, hr⟩ := h
  obtain ⟨p', c', rfl, hr'⟩ := h'
  exact (eqInt64SS_any w hr hr').mono fun e w' ⟨he, hw⟩ => ⟨he.trans (ret_bool (by simp)), hw.below _⟩
theorem markII_v {B : Nat} {v : Value} {xs : List (List Int)} {L : List Value} (m : Int) (w : World) (h : OwnII B w v xs L) (hd : Dis L) (hm0 : 0 ≤ m) (hm : m + cntII xs ≤ 1099511627776) :
    Calls Tryz.prog 57 #[v, .int .i64 m] w fun e w' => e = .returned (.int .i64 (m + cntII xs)) ∧ OwnII B w' v (markII m xs) L ∧ Off (Blk L) w w' := by
  obtain ⟨hv, hs, hd'⟩ := h
  have hoff : ∀ k, v.ownBlock = some k → ¬ Blk L k := fun k hk => hv.off (by decide) hs hk
  have key : ∀ p c, v = .slice p L.length c → RdV w p L → (∀ b o, p = some ⟨b, o, none⟩ → ¬ Blk L b) →
      Calls Tryz.prog 57 #[v, .int .i64 m] w fun e w' => e = .returned (.int .i64 (m + cntII xs)) ∧ OwnII B w' v (markII m xs) L ∧ Off (Blk L) w w' := by
    rintro p c rfl hr ho
    refine (markInt64SS_any m w hr hs hd ho hm0 hm).mono fun e w' ⟨he, hi, hw⟩ => ⟨he, ⟨?_, hi, hd'⟩, hw⟩
    exact hv.keep fun k hk => hw.block k (hv.lt hk).2 (hoff k hk)
  rcases hv.cases with ⟨e, rfl⟩ | ⟨g, cap, e, _, _, _, hr⟩
  · exact key none 0 e ⟨by simp [maxLen], .inl rfl⟩ (fun _ _ h => by cases h)
  · exact key _ cap e hr (fun b o hb => hoff b (by rw [e]; simp only [Option.some.injEq, Addr.mk.injEq] at hb; simp [Value.ownBlock, hb.1]))
theorem heldII_v {v : Value} {xs : List (List Int)} (m : Int) (w : World) (h : VII w v (markII m xs)) (hm0 : 0 ≤ m) (hm : m + cntII xs ≤ 1099511627776) :
    Calls Tryz.prog 60 #[v, .int .i64 m] w fun e w' => e = .returned (.int .i64 (m + cntII xs)) ∧ Below w.heap.size w w' := by
  obtain ⟨p, c, rfl, hr⟩ := h
  unfold markII at hr ⊢
  rw [marks_length]
  exact (heldInt64SS_any m w hr hm0 hm).mono fun e w' ⟨he, hw⟩ => ⟨he, by subst hw; exact Below.refl _ _⟩
end Go.Proofs.YtdcacmmglkcliaaGreatDoor
