/-
  Several texts in one: RnB, RnW.
-/
import Derived.Test.YtdjoaaccnadccaaPk6
import Derived.Test.YtdjoaaccnadccaaPk4
namespace Go.Proofs.Ytdjoaaccnadccaa
open Go.ChangeShapes Go.WideShapes Go.ChangeAt Go.RowKit Go.Sort
set_option linter.unusedVariables false
set_option linter.unusedSimpArgs false

/-- append of one number that has just been laid, as one operation; where the row lies then is told -/
theorem oper_append_new {o : Oper} {a : Act} {K : Act → World → Prop} {Q : Exit → Act → World → Prop} {w : World} {y : Int} (s x : Operand)
    (ho : o.op = .call { callee := .builtin .append, args := #[s, x], argTypes := #[26, 26] })
    {B : Nat} {v : Value} {xs : List Int} (hs : a.eval s = v) (hown : OwnI B w v xs) (hx : a.eval x = .slice (some ⟨w.heap.size, 0, none⟩) 1 1) (hlen : xs.length < 17592186044415) (hB : B ≤ w.heap.size)
    (h : ∀ v' w', OwnI B w' v' (xs ++ [y]) → w'.os = w.os ∧ w'.tape = w.tape ∧ w'.output = w.output ∧ w.heap.size ≤ w'.heap.size → (∀ k, k < w.heap.size → v.ownBlock ≠ some k → w'.heap[k]? = w.heap[k]?) → (∀ k, v'.ownBlock = some k → v.ownBlock = some k ∨ w.heap.size ≤ k) → K (a.put o.dst v') w') :
    Oper.wp Try.prog o a (w.alloc (.cells #[.int .i64 y] 2)) K Q := by
  obtain ⟨v', w', h1, h2, h3, h4⟩ := run_append_new (w.alloc (.cells #[.int .i64 y] 2)) o.type (hown.alloc _) (b := w.heap.size) (o := 0) (y := y) ((Box.new w [.int .i64 y] 2).cell 0 rfl) hlen (by simp; omega)
  unfold Oper.wp execOp
  simp only [ho, resolve, invoke, builtin, Sem.run_bind, Sem.run_pure, Result.andThen_ok, List.map_toArray, List.map_cons, List.map_nil, hs, hx, h1]
  refine h v' w' h2 ⟨h3.os, h3.tape, h3.output, ?_⟩ (fun k hk hne => (h3.block k (by simp; omega) (fun e => hne e.symm)).trans (Below.heap_alloc _ _ _ hk)) fun k hk => ?_
  · have := h3.size; simp at this; omega
  · rcases h4 k hk with h | h
    · exact .inl h
    · exact .inr (by simp at h; omega)
theorem dis_iff {L : List Value} : Dis L ↔ ∀ i j (hi : i < L.length) (hj : j < L.length), i < j → ∀ b, L[i].ownBlock = some b → L[j].ownBlock ≠ some b := by
  unfold Dis
  rw [List.pairwise_iff_getElem]
theorem Dis.ne {L : List Value} (h : Dis L) {i j : Nat} (hi : i < L.length) (hj : j < L.length) (hne : i ≠ j) {b : Nat} (hb : L[i].ownBlock = some b) : L[j].ownBlock ≠ some b := by
  rw [dis_iff] at h
  rcases Nat.lt_or_gt_of_ne hne with h1 | h1
  · exact h i j hi hj h1 b hb
  · exact fun e => h j i hj hi h1 b e hb
theorem blk_set {L : List Value} {k : Nat} {u : Value} {b : Nat} (h : Blk (L.set k u) b) : Blk L b ∨ u.ownBlock = some b := by
  obtain ⟨s, hs, hb⟩ := h
  rcases List.mem_or_eq_of_mem_set hs with h1 | rfl
  · exact .inl ⟨s, h1, hb⟩
  · exact .inr hb
/-- one row is replaced by a longer one -/
theorem OwnII.putRow {B : Nat} {w W : World} {g n c : Nat} {xss : List (List Int)} {L : List Value} (h : OwnII B w (.slice (some ⟨g, 0, none⟩) n c) xss L) {k : Nat} (hk : k < L.length) {u : Value} {ys : List Int}
    (hu : OwnI B W u ys) (hsz : w.heap.size ≤ W.heap.size) (hkeep : ∀ j, j < w.heap.size → L[k].ownBlock ≠ some j → W.heap[j]? = w.heap[j]?) (hnew : ∀ j, u.ownBlock = some j → L[k].ownBlock = some j ∨ w.heap.size ≤ j) :
    OwnII B (W.setCell ⟨g, k, none⟩ u) (.slice (some ⟨g, 0, none⟩) n c) (xss.set k ys) (L.set k u) ∧ (∀ b, Blk (L.set k u) b → Blk L b ∨ w.heap.size ≤ b) ∧ (∀ j, j < w.heap.size → j ≠ g → ¬ Blk L j → (W.setCell ⟨g, k, none⟩ u).heap[j]? = w.heap[j]?) := by
  obtain ⟨hv, hs, hd⟩ := h
  have hgl := (hv.lt (k := g) rfl).2
  have hgn : L[k].ownBlock ≠ some g := fun e => hv.off (by decide) hs rfl ⟨L[k], List.getElem_mem hk, e⟩
  have hvW : OwnV B W 26 (.slice (some ⟨g, 0, none⟩) n c) L := hv.keep fun j hj => by
    simp only [Value.ownBlock, Option.some.injEq] at hj
    subst hj
    exact hkeep _ hgl hgn
  have hsW : OwnIs B W (L.set k u) (xss.set k ys) := by
    have hl := hs.1
    refine ⟨by rw [List.length_set, List.length_set]; exact hl, fun i hi => ?_⟩
    have hi' : i < xss.length := by rw [List.length_set] at hi; exact hi
    by_cases e : k = i
    · subst e
      exact ⟨u, List.getElem?_set_self hk, by rw [List.getElem_set_self]; exact hu⟩
    · obtain ⟨hL, ho⟩ := hs.at_ hi'
      exact ⟨L[i], by rw [List.getElem?_set_ne e]; exact List.getElem?_eq_getElem hL, by
        rw [List.getElem_set_ne e]
        exact ho.keep fun j hj => hkeep j (ho.lt hj).2 (hd.ne hL hk (fun e' => e e'.symm) hj)⟩
  have hnb : ∀ b, Blk (L.set k u) b → Blk L b ∨ w.heap.size ≤ b := fun b hb => by
    rcases blk_set hb with h1 | h1
    · exact .inl h1
    · rcases hnew b h1 with h2 | h2
      · exact .inl ⟨L[k], List.getElem_mem hk, h2⟩
      · exact .inr h2
  refine ⟨⟨(hvW.storing (k := k) hk).2.2.2.2.2 u, hsW.keep fun b hb => Below.heap_setCell _ _ _ _ fun e => ?_, ?_⟩, hnb, fun j hj hne hnb' => ?_⟩
  · have e' : b = g := e
    subst e'
    exact hvW.off (by decide) hsW rfl hb
  · rw [dis_iff]
    intro i j hi hj hij b hb
    rw [List.length_set] at hi hj
    rw [List.getElem_set] at hb ⊢
    by_cases e1 : k = i
    · rw [if_pos e1] at hb
      rw [if_neg (by omega)]
      rcases hnew b hb with h1 | h1
      · exact hd.ne hk hj (by omega) h1
      · intro e
        have hx : j < xss.length := by rw [← hs.1]; exact hj
        obtain ⟨hL, ho⟩ := hs.at_ hx
        have := (ho.lt e).2
        omega
    · rw [if_neg e1] at hb
      by_cases e2 : k = j
      · rw [if_pos e2]
        intro e
        have hx : i < xss.length := by rw [← hs.1]; exact hi
        obtain ⟨hL, ho⟩ := hs.at_ hx
        have h3 := (ho.lt hb).2
        rcases hnew b e with h1 | h1
        · exact hd.ne hi hk (fun e' => e1 e'.symm) hb h1
        · omega
      · rw [if_neg e2]
        exact hd.ne hi hj (by omega) hb
  · rw [Below.heap_setCell _ _ _ _ (show j ≠ g from hne)]
    exact hkeep j hj fun e => hnb' ⟨L[k], List.getElem_mem hk, e⟩
/-! ### what is out so far -/
/-- the outputs' first i frames, one more for the first k outputs -/
def mixL (x : PatchD) (ins : List (List Int)) (i k : Nat) : List (List Int) := (x.outputs.take k).map (fun o => outK0 x ins o (i + 1)) ++ (x.outputs.drop k).map (fun o => outK0 x ins o i)
theorem mixL_zero (x : PatchD) (ins : List (List Int)) (i : Nat) : mixL x ins i 0 = renL x ins i := by unfold mixL; rw [renL_eq]; simp
theorem mixL_end (x : PatchD) (ins : List (List Int)) (i : Nat) : mixL x ins i x.outputs.length = renL x ins (i + 1) := by unfold mixL; rw [renL_eq]; simp
theorem mixL_length (x : PatchD) (ins : List (List Int)) (i k : Nat) : (mixL x ins i k).length = x.outputs.length := by unfold mixL; simp; omega
theorem mixL_get {x : PatchD} {ins : List (List Int)} {i k : Nat} (h : k < x.outputs.length) : (mixL x ins i k)[k]'(by rw [mixL_length]; exact h) = outK0 x ins x.outputs[k] i := by
  unfold mixL
  have h1 : ((x.outputs.take k).map (fun o => outK0 x ins o (i + 1))).length = k := by simp; omega
  have e : ∀ m (hm : m < x.outputs.length), m = k → x.outputs[m] = x.outputs[k] := by rintro m hm rfl; rfl
  rw [List.getElem_append_right (by omega)]
  simp only [List.getElem_map, List.getElem_drop]
  rw [e _ _ (by rw [h1]; omega)]
theorem mixL_set {x : PatchD} {ins : List (List Int)} {i k : Nat} (h : k < x.outputs.length) : (mixL x ins i k).set k (outK0 x ins x.outputs[k] (i + 1)) = mixL x ins i (k + 1) := by
  unfold mixL
  have h1 : ((x.outputs.take k).map (fun o => outK0 x ins o (i + 1))).length = k := by simp; omega
  rw [List.set_append_right _ _ (by omega), h1, Nat.sub_self, List.drop_eq_getElem_cons h, List.map_cons, List.set_cons_zero, List.take_succ_eq_append_getElem h, List.map_append]
  simp
theorem renL_zero (x : PatchD) (ins : List (List Int)) : renL x ins 0 = List.replicate x.outputs.length [] := by
  unfold renL
  rw [List.eq_replicate_iff]
  exact ⟨by simp, fun b hb => by obtain ⟨o, _, rfl⟩ := List.mem_map.1 hb; rfl⟩
theorem frN_take {ins : List (List Int)} {i k : Nat} (h : k < ins.length) : (frN ins i).take (k + 1) = (frN ins i).take k ++ [ins[k].getD i 0] := by
  unfold frN
  rw [List.take_succ_eq_append_getElem (by simpa using h)]
  simp
theorem l03AtR_any {p : Option Addr} {c : Nat} {xs : List Int} (i : Nat) (w : World) (h : RdI w p xs) (hi : i ≤ 1048576) :
    Calls Try.prog 59 #[.slice p xs.length c, .int .i64 (i : Int)] w fun e w' => e = .returned (.int .i64 (xs.getD i 0)) ∧ w = w' := by
  have hl := h.len
  unfold maxLen at hl
  have IN := Lib.hid (l00In_any (i : Int) 0 ((xs.length : Int) - 1) w)
  by_cases h1 : i < xs.length
  · obtain ⟨b, o, rfl, hb, hc⟩ := h.pos h1
    have hck := hc i h1
    rw [getD_at2 h1]
    rw [inB_true (by omega)] at IN
    generalize xs[i] = x at hck ⊢
    clear hc
    go_enter Try.func59, Try.ntmps59
    go_wp2_with (go_at_call 25; refine IN.out.mono ?_; rintro e w' ⟨rfl, rfl⟩)
    go_ret
    exact ⟨rfl, rfl⟩
  · have h0 : xs.getD i 0 = 0 := by rw [List.getD_eq_getElem?_getD, List.getElem?_eq_none (by omega)]; rfl
    rw [h0]
    rw [inB_false (by omega)] at IN
    go_enter Try.func59, Try.ntmps59
    go_wp2_with (go_at_call 25; refine IN.out.mono ?_; rintro e w' ⟨rfl, rfl⟩)
    go_ret
    exact ⟨rfl, rfl⟩
end Go.Proofs.Ytdjoaaccnadccaa

namespace Go.Proofs.Ytdjoaaccnadccaa
open Go.ChangeShapes Go.WideShapes Go.ChangeAt Go.RowKit Go.Sort
set_option linter.unusedVariables false
set_option linter.unusedSimpArgs false

theorem oper_append_newD {o : Oper} {a : Act} {K : Act → World → Prop} {Q : Exit → Act → World → Prop} {w : World} {y : Int} (s x : Operand)
    (ho : o.op = .call { callee := .builtin .append, args := #[s, x], argTypes := #[26, 26] })
    {B : Nat} {v : Value} {xs : List Int} (hs : a.eval s = v) (hown : OwnI B w v xs) (hx : a.eval x = .slice (some ⟨w.heap.size, 0, none⟩) 1 1) (hlen : xs.length < 17592186044415) (hB : B ≤ w.heap.size)
    (h : ∀ v' w', OwnI B w' v' (xs ++ [y]) → w'.os = w.os ∧ w'.tape = w.drew.tape ∧ w'.output = w.output ∧ w.heap.size ≤ w'.heap.size → (∀ k, k < w.heap.size → v.ownBlock ≠ some k → w'.heap[k]? = w.heap[k]?) → (∀ k, v'.ownBlock = some k → v.ownBlock = some k ∨ w.heap.size ≤ k) → K (a.put o.dst v') w') :
    Oper.wp Try.prog o a (w.alloc (.cells #[.int .i64 y] 2)).drew K Q :=
  oper_append_new (w := w.drew) s x ho hs hown.drew hx hlen hB fun v' w' h1 h2 h3 h4 => h v' w' h1 h2 h3 h4
theorem OwnII.opened {B : Nat} {w : World} {v : Value} {xss : List (List Int)} {L : List Value} (h : OwnII B w v xss L) {k : Nat} (hk : k < L.length) :
    ∃ g c, v = .slice (some ⟨g, 0, none⟩) L.length c ∧ w.cell? ⟨g, k, none⟩ = some L[k] ∧ g < w.heap.size ∧ B ≤ g ∧ w.frozen? ⟨g, k, none⟩ = false ∧ L[k].ownBlock ≠ some g := by
  rcases h.1.cases with ⟨rfl, rfl⟩ | ⟨g, c, rfl, hB, hg, -, -⟩
  · simp at hk
  · obtain ⟨-, -, -, h1, h2, -⟩ := h.1.storing hk
    exact ⟨g, c, rfl, h1, hg, hB, h2, fun e => h.1.off (by decide) h.2.1 rfl ⟨L[k], List.getElem_mem hk, e⟩⟩
/-- the state of a rendering ahead of frame f -/
def RnSt (w1 : World) (gs : Nat) (x : PatchD) (ins : List (List Int)) (v : Value) (f : Nat) (wr : World) : Prop :=
  ∃ (L : List Value) (Bst : Nat) (Lst : List Value) (q : Option Addr) (d : Nat), OwnII w1.heap.size wr v (renL x ins f) L ∧ Box wr gs [.slice q x.nodes.length d] 76 ∧ OwnII Bst wr (.slice q x.nodes.length d) (stI x ins f) Lst ∧
    (∀ b, v.ownBlock = some b ∨ Blk L b → ¬ Blk Lst b ∧ (Value.slice q x.nodes.length d).ownBlock ≠ some b) ∧ Off (· = gs) w1 wr
set_option maxHeartbeats 8000000 in
set_option maxRecDepth 100000 in
theorem l08Block_any {E w : World} {gp gs Bs n : Nat} {x : PatchD} {ins : List (List Int)} {Ls : List Value} {pi q : Option Addr} {ci d : Nat} (hE : Below E.heap.size E w) (hg : E.heap.size ≤ gs) (h : PPatch E gp x) (hok : okB x = true) (hin : RdII E pi ins) (hi : InsOk x ins) (hs : Box w gs [.slice q x.nodes.length d] 76) (hst : OwnII Bs w (.slice q x.nodes.length d) (stI x ins 0) Ls) (hn : n ≤ 4000) :
    Calls Try.prog 44 #[.pointer (some ⟨gp, 0, none⟩), .pointer (some ⟨gs, 0, none⟩), .slice pi ins.length ci, .int .i64 0, .int .i64 (n : Int)] w fun e w' => ∃ u L, e = .returned u ∧ OwnII w.heap.size w' u (renL x ins n) L ∧ Below E.heap.size E w' := by
  have hf := (okR_len hok).1
  have ho4 : x.outputs.length ≤ 4 := (formed_iff.1 hf).2.2.2.1
  have hi4 : ins.length ≤ 4 := by have := hi.n; have := (formed_iff.1 hf).1.2; omega
  have HFR := Lib.hid (FrOk.run hf hi)
  have HOR := Lib.hid (l07Order_any w (h.below hE) hf)
  have HL := Lib.hid ((okR_len hok).2.1)
  have HF := Lib.hid hf
  have HI := Lib.hid hi
  have HP := Lib.hid h
  have hgw : gs < w.heap.size := hs.lt
  have hgpl : gp < E.heap.size := h.lt
  obtain ⟨p1, c1, p2, c2, p3, c3, bx, r1, r2, r3⟩ := h
  clear r1 r2 hok hf hi
  obtain ⟨no, hno⟩ : ∃ m, m = x.outputs.length := ⟨_, rfl⟩
  have HNO := Lib.hid hno
  rw [← hno] at bx ho4
  clear hno
  go_enter Try.func44, Try.ntmps44
  go_upto_region 2 with (first | (go_at_call 41; refine HOR.out.mono ?_; rintro e w1 ⟨u0, rfl, ho, hb1⟩; rw [if_pos HL.out] at ho; rw [decide_eq_true HL.out]; obtain ⟨po, co, rfl, -⟩ := ho.rd) | fail)
  have hE1 := hE.trans (hb1.mono hE.size)
  have z3 := (bx.below hE1).cell 3 rfl
  have hs1 := hs.below hb1
  have hst1 := hst.below hb1
  have h0 := OwnII.empty (B := w1.heap.size) w1 (Nat.le_refl _)
  have hB0 := (Below.refl w1.heap.size w1).alloc (Nat.le_refl _) (.cells #[] 26)
  have hgl1 : gp < w1.heap.size := by have := hE1.size; omega
  have HSB : Hid (∀ b, Blk Ls b → b < w.heap.size) := fun b hb => (hst.blk hb).2
  have HSO : Hid (∀ b, (Value.slice q x.nodes.length d).ownBlock = some b → b < w.heap.size) := fun b hb => (hst.1.lt hb).2
  have hw1 := hb1.size
  clear hs hst
  go_wp2_with fail
  go_loopw [13, 14] (fun v i wr => ∃ (k : Nat) (L : List Value), k ≤ no ∧ i = .int .i64 (k : Int) ∧ OwnII w1.heap.size wr v (List.replicate k []) L ∧ Below w1.heap.size w1 wr) (fun _ i _ => no - (intOf i).toNat)
  case atStart => exact ⟨0, [], Nat.zero_le _, rfl, h0, hB0⟩
  case round =>
    obtain ⟨k, L, hk, rfl, hown, hbel⟩ := hrel
    clear h0 hB0 z3
    obtain ⟨wi, rfl⟩ : ∃ wi : World, wi = wr := ⟨_, rfl⟩
    have hbs := hbel.size
    have z3 := (bx.below (hE1.trans (hbel.mono hE1.size))).cell 3 rfl
    by_cases hlt : k < no
    · have hb' : Below wi.heap.size wi (wi.alloc (.cells #[] 2)) := (Below.refl _ _).alloc (Nat.le_refl _) _
      have own1 := hown.below hb'
      have hu : OwnI w1.heap.size (wi.alloc (.cells #[] 2)) (.slice (some ⟨wi.heap.size, 0, none⟩) 0 0) [] := OwnI.lit (B := w1.heap.size) wi [] hbs (by simp [maxLen])
      have hfresh : ∀ b, (Value.slice (some ⟨wi.heap.size, 0, none⟩) 0 0).ownBlock = some b → ¬ Blk L b := fun b hb hbk => by
        have := (hown.2.1.blk hbk).2.1
        simp only [Value.ownBlock, Option.some.injEq] at hb
        omega
      have hbelA := hbel.trans (hb'.mono hbs)
      have hLl : L.length < 1099511627776 := by have := hown.2.1.1; rw [List.length_replicate] at this; omega
      have hsA := hbelA.size
      go_wp2_with (first | (at_builtin; refine wpList_append_val rfl _ _ rfl 24 (.slice none 0 0) Try.underlying24 infoII rfl (by omega) rfl own1.1 (by rw [World.size_alloc]; rfl) rfl hbelA hLl hsA (Nat.le_refl _) ?_; intro v' w' ho' hb2 hz' hk') | fail)
      have own2 := own1.snoc hu hfresh ho' hk'
      rw [← List.replicate_succ'] at own2
      go_roundw
      case rel => exact ⟨k + 1, _, by omega, by go_num, own2, hb2⟩
      case measure => simp [intOf] <;> omega
    · obtain rfl : no = k := by omega
      rw [HNO.out, ← renL_zero x ins] at hown
      obtain ⟨pv, nv, cv, rfl⟩ := hown.1.sl
      have hRS : Hid (RnSt w1 gs x ins (.slice pv nv cv) 0 wi) := by
        have hs2 := hs1.below hbel
        refine ⟨L, Bs, Ls, q, d, hown, hs1.keep (hbel.block gs (by omega)), ⟨hst1.1.keep fun b hb => hbel.block b (by have := HSO.out b hb; omega), hst1.2.1.keep fun b hb => hbel.block b (by have := HSB.out b hb; omega), hst1.2.2⟩, fun b hb => ?_, Off.of_below _ hbel⟩
        have hb3 : w1.heap.size ≤ b := by
          rcases hb with h | h
          · exact (hown.1.lt h).1
          · exact (hown.2.1.blk h).1
        exact ⟨fun h => by have := HSB.out b h; omega, fun h => by have := HSO.out b h; omega⟩
      have HCV := Lib.hid hbel
      clear hown hs1 hst1 hbs
      go_wp2_with fail
      go_loopw [15] (fun i wr => ∃ f : Nat, f ≤ n ∧ i = .int .i64 (f : Int) ∧ RnSt w1 gs x ins (.slice pv nv cv) f wr) (fun i _ => n - (intOf i).toNat)
      case atStart => exact ⟨0, Nat.zero_le _, rfl, hRS.out⟩
      case round =>
        obtain ⟨f, hfn, rfl, L, Bst, Lst, q', d', hown, hbs, hst, hdis, hoff⟩ := hrel
        clear hRS z3 HCV
        obtain ⟨wf, rfl⟩ : ∃ W : World, W = wr := ⟨_, rfl⟩
        have hEf : Below E.heap.size E wf := hE1.trans (hoff.below (B := E.heap.size) (fun b hb => by have : b = gs := hb; omega) hE1.size)
        have hof := hoff.size
        have hE1s := hE1.size
        by_cases hlt : f < n
        · have o16 := OwnI.lit (B := wf.heap.size) wf [] (Nat.le_refl _) (by simp [maxLen])
          have hbA := (Below.refl wf.heap.size wf).alloc (Nat.le_refl _) (.cells #[] 2)
          have hOut : Hid (∀ b, (Value.slice pv nv cv).ownBlock = some b ∨ Blk L b → w1.heap.size ≤ b ∧ b < wf.heap.size) := fun b hb => by
            rcases hb with h | h
            · exact hown.1.lt h
            · exact hown.blk h
          have HDIS := Lib.hid hdis
          clear hdis
          go_wp2_with fail
          go_loopw [16, 17] (fun v16 i w3 => ∃ k : Nat, k ≤ ins.length ∧ i = .int .i64 (k : Int) ∧ OwnI wf.heap.size w3 v16 ((frN ins f).take k) ∧ Below wf.heap.size wf w3) (fun _ i _ => ins.length - (intOf i).toNat)
          case atStart => exact ⟨0, Nat.zero_le _, rfl, o16, hbA⟩
          case round =>
            obtain ⟨k, hk, rfl, hown3, hb3⟩ := hrel
            clear o16 hbA
            obtain ⟨wk, rfl⟩ : ∃ W : World, W = wr := ⟨_, rfl⟩
            have hEk := hEf.trans (hb3.mono hEf.size)
            have hs3 := hb3.size
            by_cases hlt3 : k < ins.length
            · obtain ⟨b, o, q3, c3', rfl, hbl, hrow, hrr⟩ := (hin.below hEk).at0 hlt3
              have hg3 : ins.getD k [] = ins[k] := by rw [List.getD_eq_getElem?_getD, List.getElem?_eq_getElem hlt3]; rfl
              have HFT := Lib.hid (frN_take (ins := ins) (i := f) hlt3)
              rw [← hg3] at HFT
              have hl3 : ((frN ins f).take k).length < 17592186044415 := by rw [List.length_take]; omega
              have hrl := hrr.len
              unfold maxLen at hrl
              have AT := Lib.hid (l03AtR_any (c := c3') f wk hrr (by omega))
              generalize ins.getD k [] = row at hrow hrr HFT AT hrl
              clear hg3
              go_wp2_with (first | (go_at_call 59; refine AT.out.mono ?_; rintro e w' ⟨rfl, rfl⟩) | (at_builtin; refine wpList_append_one rfl _ _ rfl rfl hown3 rfl hb3 hl3 hs3 (Nat.le_refl _) ?_; intro v' w8 ho8 hb8 hz8 hk8) | fail)
              go_roundw
              case rel => exact ⟨k + 1, by omega, by go_num, by rw [HFT.out]; exact ho8, hb8⟩
              case measure => simp [intOf] <;> omega
            · obtain rfl : k = ins.length := by omega
              rw [← frN_length ins f, List.take_length] at hown3
              obtain ⟨pf, cf, rfl, -⟩ := hown3.rd
              have ho3 : OwnI w.heap.size wk (.slice po (orderL x.nodes).length co) (orderL x.nodes) := ho.keep fun b hb => by
                have h1 := (ho.lt hb)
                rw [hb3.block b (by omega)]
                exact hoff.block b h1.2 (by show b ≠ gs; omega)
              have hor : RdI wk po (orderL x.nodes) := by
                obtain ⟨p', c', e', hr'⟩ := ho3.rd
                obtain ⟨rfl, -, rfl⟩ := (Value.slice.injEq _ _ _ _ _ _).mp e'
                exact hr'
              have hfr : RdI wk pf (frN ins f) := by
                obtain ⟨p', c', e', hr'⟩ := hown3.rd
                obtain ⟨rfl, -, rfl⟩ := (Value.slice.injEq _ _ _ _ _ _).mp e'
                exact hr'
              have hst3 := hst.below hb3
              have hbs3 : Box wk gs [.slice q' (stI x ins f).length d'] 76 := by rw [stI_length]; exact hbs.below hb3
              have hstr : RdII wk q' (stI x ins f) := by
                obtain ⟨p', c', e', hr'⟩ := hst3.rd
                obtain ⟨rfl, -, rfl⟩ := (Value.slice.injEq _ _ _ _ _ _).mp e'
                exact hr'
              have VV : Hid (Calls Try.prog 60 #[.pointer (some ⟨gp, 0, none⟩), .slice po (orderL x.nodes).length co, .pointer (some ⟨gs, 0, none⟩), .slice pf (frN ins f).length cf] wk fun e w' => ∃ v, e = .returned v ∧ OwnI wk.heap.size w' v (vsI x ins f) ∧ Below wk.heap.size wk w') :=
                l08Values_any (co := co) (cf := cf) wk (HP.out.below hEk) hor orderL_mem hbs3 hstr hfr (HFR.out f)
              clear ho3 hor hfr hst3 hbs3 hstr
              go_upto_region 16 with (first | (go_at_call 60; refine VV.out.mono ?_; rintro e w4 ⟨v4, rfl, hv4, hb4⟩; obtain ⟨pv4, cv4, rfl, -⟩ := hv4.rd) | fail)
              have hb34 : Below wf.heap.size wf w4 := hb3.trans (hb4.mono hs3)
              have hown4 := hown.below hb34
              have hbs4 := hbs.below hb34
              have hst4 := hst.below hb34
              have hfr4 := hown3.below hb4
              have hE4 := hEf.trans (hb34.mono hEf.size)
              have hs4 := hb34.size
              have hk4 := hb4.size
              have HO34 := Lib.hid hb34
              have z3 := (bx.below hE4).cell 3 rfl
              clear hown hbs hst hown3 VV hb3 hb4 hEk
              go_wp2_with fail
              go_loopw [19] (fun i w5 => ∃ (k : Nat) (L' : List Value), k ≤ no ∧ i = .int .i64 (k : Int) ∧ OwnII w1.heap.size w5 (.slice pv nv cv) (mixL x ins f k) L' ∧ Hid (∀ b, Blk L' b → Blk L b ∨ w4.heap.size ≤ b) ∧ Off (fun b => (Value.slice pv nv cv).ownBlock = some b ∨ Blk L b) w4 w5) (fun i _ => no - (intOf i).toNat)
              case atStart => exact ⟨0, L, Nat.zero_le _, rfl, by rw [mixL_zero]; exact hown4, fun b h => .inl h, Off.refl _ _⟩
              case round =>
                obtain ⟨k, L', hk, rfl, hown5, HB5, hoff5⟩ := hrel
                clear z3
                obtain ⟨w5, rfl⟩ : ∃ W : World, W = wr := ⟨_, rfl⟩
                have hs5 := hoff5.size
                have hK5 : ∀ b, b < w4.heap.size → (b < w1.heap.size ∨ wf.heap.size ≤ b) → w5.heap[b]? = w4.heap[b]? := fun b hb h => hoff5.block b hb fun hob => by have := hOut.out b hob; omega
                have bx5 : Box w5 gp [.int .i64 x.inputs, .slice p1 x.tables.length c1, .slice p2 x.nodes.length c2, .slice p3 no c3] 28 := (bx.below hE4).keep (hK5 gp (by omega) (.inl hgl1))
                have z3 := bx5.cell 3 rfl
                by_cases hlt5 : k < no
                · have hko : k < x.outputs.length := by rw [← HNO.out]; exact hlt5
                  have hkL : k < L'.length := by rw [hown5.2.1.1, mixL_length]; exact hko
                  obtain ⟨go, cgo, ego, hcgo, hgol, hgoB, hgof, hgon⟩ := hown5.opened hkL
                  obtain ⟨rfl, hnv, rfl⟩ := (Value.slice.injEq _ _ _ _ _ _).mp ego
                  clear ego
                  obtain ⟨hL5, hu5⟩ := hown5.2.1.at_ (i := k) (by rw [mixL_length]; exact hko)
                  rw [mixL_get hko] at hu5
                  obtain ⟨bo, oo, rfl, hbo, hco⟩ := r3.pos hko
                  have hoc := hco k hko
                  have hom := (formed_iff.1 HF.out).2.2.2.2.2 _ (List.getElem_mem hko)
                  obtain ⟨m, hm⟩ : ∃ m : Nat, x.outputs[k] = m := ⟨x.outputs[k].toNat, by omega⟩
                  have HMS := Lib.hid (mixL_set (x := x) (ins := ins) (i := f) hko)
                  rw [hm] at hoc hom hu5 HMS
                  rw [outK0_succ, Int.toNat_natCast] at HMS
                  have hmv : m < (vsI x ins f).length := by rw [vsI_len]; omega
                  rcases hv4.cases with ⟨-, h00⟩ | ⟨bv, cv5, e4, hBv, hbv, -, hrv⟩
                  · rw [h00] at hmv; simp at hmv
                  obtain ⟨rfl, -, rfl⟩ := (Value.slice.injEq _ _ _ _ _ _).mp e4
                  clear e4
                  obtain ⟨bv', ov', e5, -, hcv⟩ := hrv.pos hmv
                  cases e5
                  have hvc := hcv m hmv
                  rw [Nat.zero_add] at hvc
                  have hvg : (vsI x ins f).getD m 0 = (vsI x ins f)[m] := getD_at2 hmv
                  rw [hvg] at HMS
                  generalize hvl : (vsI x ins f)[m] = y at hvc HMS
                  have HU : Hid (∀ b, L'[k].ownBlock = some b → w1.heap.size ≤ b ∧ b < w5.heap.size ∧ (b < wf.heap.size ∨ w4.heap.size ≤ b)) := fun b hb => by
                    have h1 := hu5.lt hb
                    refine ⟨h1.1, h1.2, ?_⟩
                    rcases HB5.out b ⟨L'[k], List.getElem_mem hkL, hb⟩ with h2 | h2
                    · exact .inl (hOut.out b (.inr h2)).2
                    · exact .inr h2
                  obtain ⟨u5, hu5e⟩ : ∃ u, u = L'[k] := ⟨_, rfl⟩
                  rw [← hu5e] at hcgo hgon hu5 HU
                  have HU5E := Lib.hid hu5e
                  have HNV := Lib.hid hnv
                  have hknv : k < nv := by rw [hnv]; exact hkL
                  have CK5 : Hid (∀ W : World, (∀ b, b < w5.heap.size → u5.ownBlock ≠ some b → W.heap[b]? = w5.heap[b]?) → W.cell? ⟨gp, 3, none⟩ = some (.slice (some ⟨bo, oo, none⟩) no c3) ∧ W.cell? ⟨bo, oo + k, none⟩ = some (.int .i64 (m : Int)) ∧ W.cell? ⟨bv, m, none⟩ = some (.int .i64 y) ∧ W.cell? ⟨go, k, none⟩ = some u5) := fun W hW => by
                    have hgp5 : gp < w5.heap.size := by omega
                    have hbo5 : bo < w1.heap.size := by omega
                    have hbv5 : bv < w5.heap.size := by omega
                    refine ⟨(bx5.keep (hW gp hgp5 fun e => by have := HU.out _ e; omega)).cell 3 rfl, ?_, ?_, ?_⟩
                    · rw [World.cell?_of_block (w := w5) (a := ⟨bo, oo + k, none⟩) (hW bo (by omega) fun e => by have := HU.out _ e; omega), World.cell?_of_block (w := w4) (a := ⟨bo, oo + k, none⟩) (hK5 bo (by omega) (.inl hbo5))]
                      exact (hE4.cell (p := ⟨bo, oo + k, none⟩) hbo).trans hoc
                    · rw [World.cell?_of_block (w := w5) (a := ⟨bv, m, none⟩) (hW bv hbv5 fun e => by have := HU.out _ e; omega), World.cell?_of_block (w := w4) (a := ⟨bv, m, none⟩) (hK5 bv hbv (.inr (by omega)))]
                      exact hvc
                    · rw [World.cell?_of_block (w := w5) (a := ⟨go, k, none⟩) (hW go hgol hgon)]
                      exact hcgo
                  have hB5 : w1.heap.size ≤ w5.heap.size := by omega
                  have hlen5 : (outK0 x ins (m : Int) f).length < 17592186044415 := by unfold outK0; simp; omega
                  have hown5v := hown5.1
                  clear hnv hu5e hcgo hvc hvl hvg hcv hco hoc hrv hbv hBv hgof hom
                  generalize hok0 : outK0 x ins (m : Int) f = zs at hu5 HMS hlen5
                  clear hok0
                  go_upto_region 19 with fail
                  refine wp_region_plan (fun W => W.cell? ⟨gp, 3, none⟩ = some (.slice (some ⟨bo, oo, none⟩) no c3) ∧ W.cell? ⟨bo, oo + k, none⟩ = some (.int .i64 (m : Int)) ∧ W.cell? ⟨bv, m, none⟩ = some (.int .i64 y) ∧ W.cell? ⟨go, k, none⟩ = some u5) 19 [(0, 0), (1, 0), (2, 0), (3, 0), (4, 0), (5, 1), (6, 0), (7, 0), (8, 0), (9, 0), (10, 1), (11, 0), (12, 0), (13, 1), (14, 0), (15, 1), (16, 2), (17, 2), (18, 0), (19, 3)] (by kernel_rfl) (by kernel_rfl) (CK5.out _ (fun _ _ _ => rfl)) ?_
                  repeat ((first | refine wpPlan_take (v := ?_) rfl (by rfl) (by (intro w hSw; clear hSw; go_simp; try with_reducible rfl)) (fun _ _ _ h => h) ?_ | refine wpPlan_load (v := ?_) rfl (by rfl) (by (intro w hSw; (try dsimp only at hSw); go_simp; try with_reducible rfl)) (fun _ _ _ h => h) ?_); try simp only [List.getElem_toArray, List.getElem_cons_succ, List.getElem_cons_zero, Act.put, List.setIfInBounds_toArray, List.set_cons_zero, List.set_cons_succ])
                  refine wpPlan_call rfl (by rfl) (fun K hK => ?_)
                  go_simp
                  skip
                  refine hK _ _ (CK5.out _ (fun b hb _ => Below.heap_alloc _ _ _ hb)) ?_
                  clear hK K
                  try simp only [Act.put, List.setIfInBounds_toArray, List.set_cons_zero, List.set_cons_succ]
                  refine wpPlan_call rfl (by rfl) (fun K hK => ?_)
                  refine oper_append_newD _ _ rfl rfl hu5 rfl hlen5 hB5 ?_; intro v6 W6 hu6 hfr6 hk6 hn6; obtain ⟨vp, vc, rfl, -⟩ := hu6.rd
                  refine hK _ _ (CK5.out _ hk6) ?_
                  clear hK K
                  try simp only [List.getElem_toArray, List.getElem_cons_succ, List.getElem_cons_zero, Act.put, List.setIfInBounds_toArray, List.set_cons_zero, List.set_cons_succ]
                  have c6 := (CK5.out _ hk6).2.2.2
                  have f6 : W6.frozen? ⟨go, k, none⟩ = false := ((hown5v.keep fun b hb => by
                    simp only [Value.ownBlock, Option.some.injEq] at hb
                    subst hb
                    exact hk6 _ hgol hgon).storing hkL).2.2.2.2.1
                  have hgo6 : go < W6.heap.size := by have := hfr6.2.2.2; omega
                  repeat ((first | refine wpPlan_take (v := ?_) rfl (by rfl) (by (intro w hSw; clear hSw; go_simp; try with_reducible rfl)) (fun _ _ _ h => h) ?_ | refine wpPlan_load (v := ?_) rfl (by rfl) (by (intro w hSw; (try dsimp only at hSw); go_simp; try with_reducible rfl)) (fun _ _ _ h => h) ?_); try simp only [List.getElem_toArray, List.getElem_cons_succ, List.getElem_cons_zero, Act.put, List.setIfInBounds_toArray, List.set_cons_zero, List.set_cons_succ])
                  refine wpPlan_store rfl (by rfl) (fun K hK => ?_)
                  go_simp
                  refine hK _ _ ?_
                  clear hK K
                  try simp only [Act.put, List.setIfInBounds_toArray, List.set_cons_zero, List.set_cons_succ]
                  refine wpPlan_nil ?_
                  rw [HU5E.out] at hk6 hn6
                  obtain ⟨n1, n2, n3⟩ := hown5.putRow hkL hu6 hfr6.2.2.2 hk6 hn6
                  rw [HMS.out] at n1
                  have hoff7 : Off (fun b => (Value.slice (some ⟨go, 0, none⟩) nv cv).ownBlock = some b ∨ Blk L b) w4 (W6.setCell ⟨go, k, none⟩ (.slice vp (zs ++ [y]).length vc)) := by
                    refine ⟨hfr6.1.trans hoff5.os, (show W6.tape = w5.drew.tape from hfr6.2.1).trans (show w5.drew.tape = w4.tape from hoff5.tape), hfr6.2.2.1.trans hoff5.output, by have := hfr6.2.2.2; simp; omega, fun b hb hne => ?_⟩
                    have hbg : b ≠ go := fun e => hne (.inl (by rw [e]; rfl))
                    have hbl : ¬ Blk L' b := fun e => by
                      rcases HB5.out b e with h | h
                      · exact hne (.inr h)
                      · omega
                    exact (n3 b (by omega) hbg hbl).trans (hoff5.block b hb hne)
                  have HB7 : Hid (∀ b, Blk (L'.set k (.slice vp (zs ++ [y]).length vc)) b → Blk L b ∨ w4.heap.size ≤ b) := fun b hb => by
                    rcases n2 b hb with h | h
                    · exact HB5.out b h
                    · exact .inr (by omega)
                  have hle : (zs ++ [y]).length = zs.length + 1 := by simp
                  rw [hle] at n1 HB7 hoff7
                  clear hle
                  go_wp2_with fail
                  go_roundw
                  case rel => exact ⟨k + 1, _, by omega, by go_num, n1, HB7, hoff7⟩
                  case measure => simp [intOf] <;> omega
                · obtain rfl : no = k := by omega
                  rw [HNO.out, mixL_end] at hown5
                  have hE5 : Below E.heap.size E w5 := hE4.trans (hoff5.below (B := E.heap.size) (fun b hb => by have := hOut.out b hb; omega) hE4.size)
                  have hbs5 : Box w5 gs [.slice q' (stI x ins f).length d'] 76 := by rw [stI_length]; exact hbs4.keep (hK5 gs (by omega) (.inl (by omega)))
                  have hst5 : OwnII Bst w5 (.slice q' (stI x ins f).length d') (stI x ins f) Lst := by
                    rw [stI_length]
                    exact ⟨hst4.1.keep fun b hb => hoff5.block b (hst4.1.lt hb).2 fun hob => (HDIS.out b hob).2 hb, hst4.2.1.keep fun b hb => hoff5.block b (hst4.blk hb).2 fun hob => (HDIS.out b hob).1 hb, hst4.2.2⟩
                  have hfr5 : RdI w5 pf (frN ins f) := by
                    have h5 : OwnI wf.heap.size w5 (.slice pf (frN ins f).length cf) (frN ins f) := hfr4.keep fun b hb => hK5 b (hfr4.lt hb).2 (.inr (hfr4.lt hb).1)
                    obtain ⟨p', c', e', hr'⟩ := h5.rd
                    obtain ⟨rfl, -, rfl⟩ := (Value.slice.injEq _ _ _ _ _ _).mp e'
                    exact hr'
                  have hv5 : RdI w5 pv4 (vsI x ins f) := by
                    have h5 : OwnI wk.heap.size w5 (.slice pv4 (vsI x ins f).length cv4) (vsI x ins f) := hv4.keep fun b hb => hK5 b (hv4.lt hb).2 (.inr (by have := (hv4.lt hb).1; omega))
                    obtain ⟨p', c', e', hr'⟩ := h5.rd
                    obtain ⟨rfl, -, rfl⟩ := (Value.slice.injEq _ _ _ _ _ _).mp e'
                    exact hr'
                  have STEP : Hid (Calls Try.prog 61 #[.pointer (some ⟨gp, 0, none⟩), .pointer (some ⟨gs, 0, none⟩), .slice pf (frN ins f).length cf, .slice pv4 (vsI x ins f).length cv4] w5 fun e w' => ∃ v0 u L, e = .returned v0 ∧ Box w' gs [u] 76 ∧ OwnII w5.heap.size w' u (stI x ins (f + 1)) L ∧ Off (· = gs) w5 w') :=
                    l08Step_any (Bs := Bst) (cf := cf) (cv := cv4) w5 (HP.out.below hE5) hbs5 hst5 hfr5 hv5 (HFR.out f) (vsI_len x ins f) (vsI_smp HF.out HI.out f)
                  clear hbs5 hst5 hfr5 hv5 hE5
                  go_wp2_with (first | (go_at_call 61; refine STEP.out.mono ?_; rintro e w6 ⟨v0, u6, L6, rfl, bs6, own6, off6⟩) | fail)
                  have hRS6 : RnSt w1 gs x ins (.slice pv nv cv) (f + 1) w6 := by
                    obtain ⟨q6, c6, rfl, -⟩ := own6.rd
                    rw [stI_length] at bs6 own6
                    have hO5 : ∀ b, (Value.slice pv nv cv).ownBlock = some b ∨ Blk L' b → w1.heap.size ≤ b ∧ b < w5.heap.size := fun b hb => by
                      rcases hb with h | h
                      · exact hown5.1.lt h
                      · exact hown5.blk h
                    refine ⟨L', w5.heap.size, L6, q6, c6, ⟨hown5.1.keep fun b hb => off6.block b (hown5.1.lt hb).2 (by have := (hown5.1.lt hb).1; show b ≠ gs; omega), hown5.2.1.keep fun b hb => off6.block b (hown5.blk hb).2 (by have := (hown5.blk hb).1; show b ≠ gs; omega), hown5.2.2⟩, bs6, own6, fun b hb => ?_, ?_⟩
                    · have h1 := hO5 b hb
                      exact ⟨fun h => by have := (own6.blk h).1; omega, fun h => by have := (own6.1.lt h).1; omega⟩
                    · refine ⟨off6.os.trans (hoff5.os.trans (HO34.out.os.trans hoff.os)), off6.tape.trans (hoff5.tape.trans (HO34.out.tape.trans hoff.tape)), off6.output.trans (hoff5.output.trans (HO34.out.output.trans hoff.output)), by have := off6.size; omega, fun b hb hne => ?_⟩
                      exact (off6.block b (by omega) hne).trans ((hK5 b (by omega) (.inl hb)).trans ((HO34.out.block b (by omega)).trans (hoff.block b hb hne)))
                  clear bs6 own6 off6
                  go_roundw
                  case rel => exact ⟨f + 1, by omega, by go_num, hRS6⟩
                  case measure => simp [intOf] <;> omega
        · obtain rfl : f = n := by omega
          go_wp2_with fail
          go_ret
          exact ⟨_, L, rfl, hown.mono hw1, hEf⟩
end Go.Proofs.Ytdjoaaccnadccaa
