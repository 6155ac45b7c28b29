/-
  Matrices: products of rows and columns, products of matrices; contracts of both sides.
-/
import Derived.Test.YtmfahnkcfcmhiaaTyBase
import Derived.Deep.RegionLaw
namespace Go.Proofs.Ytmfahnkcfcmhiaa
open Go.ChangeShapes Go.WideShapes Go.ChangeAt Go.RowKit
set_option linter.unusedVariables false
set_option linter.unusedSimpArgs false

/-- the sum of the first k products -/
def dotN (xs ys : List Int) : Nat → Int
  | 0 => 0
  | k + 1 => smp (dotN xs ys k + xs.getD k 0 * ys.getD k 0)
theorem getD_of_lt {α : Type} {xs : List α} {k : Nat} (d : α) (h : k < xs.length) : xs.getD k d = xs[k] := by
  rw [List.getD_eq_getElem?_getD, List.getElem?_eq_getElem h]; rfl
theorem smp_add_w64 (a b : Int) : smp (a + wrap64 b) = smp (a + b) := by unfold smp wrap64; omega
theorem smp_add_right (a b : Int) : smp (a + smp b) = smp (a + b) := by
  obtain ⟨k, hk⟩ := smp_mod b
  rw [hk]; unfold smp; omega

set_option maxHeartbeats 800000 in
theorem dot_any {p q : Option Addr} {c d : Nat} {xs ys : List Int} (w : World) (h : RdI w p xs) (h' : RdI w q ys) (hle : xs.length ≤ ys.length) :
    Calls Try.prog 19 #[.slice p xs.length c, .slice q ys.length d] w fun e w' => e = .returned (.int .i64 (dotN xs ys xs.length)) ∧ w = w' := by
  have hl1 := h.len
  have hl2 := h'.len
  unfold maxLen at hl1 hl2
  go_enter Try.func19, Try.ntmps19
  go_wp2_with fail
  go_loop [5, 10] (fun s i => ∃ k : Nat, k ≤ xs.length ∧ i = .int .i64 k ∧ s = .int .i64 (dotN xs ys k)) (fun _ i => xs.length - (intOf i).toNat)
  case atStart => exact ⟨0, Nat.zero_le _, rfl, rfl⟩
  case round =>
    obtain ⟨k, hk, rfl, rfl⟩ := hrel
    by_cases hlt : k < xs.length
    · obtain ⟨b, o, rfl, hb1, hc⟩ := h.pos hlt
      obtain ⟨b', o', rfl, hb2, hc'⟩ := h'.pos (k := k) (by omega)
      have hck := hc k hlt
      have hck' := hc' k (by omega)
      have hs : Hid (dotN xs ys (k + 1) = smp (dotN xs ys k + xs[k] * ys[k])) := by
        unfold Hid; rw [dotN, getD_of_lt 0 hlt, getD_of_lt 0 (by omega)]
      clear hc hc'
      generalize xs[k] = x at hck hs
      generalize ys[k] = y at hck' hs
      generalize dotN xs ys k = s at hs
      go_wp2_with (go_at_call 21; refine (implWrap_any _ _).mono ?_; rintro e w' ⟨rfl, rfl⟩)
      go_round
      case rel => exact ⟨k + 1, by omega, by go_num, by rw [hs.out]; simp only [smp_wrap64, smp_add_w64]⟩
      case measure => simp [intOf] <;> omega
    · obtain rfl : k = xs.length := by omega
      go_wp2_with fail
      go_ret
      exact ⟨rfl, rfl⟩
def timesL (rows : List (List Int)) (xs : List Int) : List Int := rows.map fun r => dotN r xs xs.length
/-- column k -/
def colL (b : List (List Int)) (k : Nat) : List Int := b.map fun r => r.getD k 0
def rowM (row : List Int) (b : List (List Int)) (n : Nat) : List Int := (List.range n).map fun k => dotN row (colL b k) row.length
def mulM (a b : List (List Int)) : List (List Int) := a.map fun row => rowM row b b.length
theorem colL_length (b : List (List Int)) (k : Nat) : (colL b k).length = b.length := by simp [colL]
theorem colL_get (b : List (List Int)) (k j : Nat) (h : j < b.length) : (colL b k).getD j 0 = b[j].getD k 0 := by
  rw [getD_of_lt 0 (by rw [colL_length]; exact h)]; simp [colL]
theorem rowM_succ (row : List Int) (b : List (List Int)) (n : Nat) : rowM row b (n + 1) = rowM row b n ++ [dotN row (colL b n) row.length] := by
  simp [rowM, List.range_succ]
theorem rowM_length (row : List Int) (b : List (List Int)) (n : Nat) : (rowM row b n).length = n := by simp [rowM]
/-- square matrices -/
theorem matB_iff {a : List (List Int)} : matB a = true ↔ a.length ≤ 24 ∧ ∀ r ∈ a, r.length = a.length ∧ ∀ x ∈ r, isSmp x = true := by
  unfold matB
  rw [Bool.and_eq_true, decide_eq_true_iff, tabB_iff]
  constructor
  · rintro ⟨h1, _, h2⟩
    exact ⟨by omega, fun r hr => ⟨by have := (h2 r hr).1; omega, (h2 r hr).2⟩⟩
  · rintro ⟨h1, h2⟩
    exact ⟨by omega, rfl, fun r hr => ⟨by have := (h2 r hr).1; omega, (h2 r hr).2⟩⟩
set_option maxHeartbeats 4000000 in
theorem specMul_any {p q : Option Addr} {c d : Nat} {a b : List (List Int)} (w : World) (h : RdII w p a) (h' : RdII w q b) (ha : matB a = true) (hb : matB b = true) (hab : a.length = b.length) :
    Calls Try.prog 10 #[.slice p a.length c, .slice q b.length d] w fun e w' => ∃ v L, e = .returned (.tuple #[v, .int .i64 0]) ∧ OwnII w.heap.size w' v (mulM a b) L ∧ Below w.heap.size w w' := by
  have HA := Lib.hid ((matB_iff).1 ha).2
  have HB := Lib.hid ((matB_iff).1 hb).2
  have hl1 := ((matB_iff).1 ha).1
  have HAB := Lib.hid hab
  have hne : (((a.length : Int) != (b.length : Int))) = false := by rw [bne_eq_false_iff_eq]; omega
  have h0 := OwnII.empty (B := w.heap.size) w (Nat.le_refl _)
  clear hab
  go_enter Try.func10, Try.ntmps10
  go_wp2_with (first | (go_at_call_of 22 (Value.slice p a.length c); refine (l09Square_any _ h).mono ?_; rintro e w' ⟨rfl, rfl⟩) | (go_at_call 22; refine (l09Square_any _ h').mono ?_; rintro e w' ⟨rfl, rfl⟩))
  clear ha hb hne
  go_loopw [6, 7] (fun v i wr => ∃ k : Nat, k ≤ a.length ∧ i = .int .i64 k ∧ ∃ L, OwnII w.heap.size wr v ((a.take k).map fun r => rowM r b b.length) L ∧ Below w.heap.size w wr) (fun _ i _ => a.length - (intOf i).toNat)
  case atStart => exact ⟨0, Nat.zero_le _, rfl, [], by simpa using h0, (Below.refl _ _).alloc (Nat.le_refl _) _⟩
  case round =>
    obtain ⟨k, hk, rfl, L, hown, hbel⟩ := hrel
    clear h0
    obtain ⟨wo, rfl⟩ : ∃ wo : World, wo = wr := ⟨_, rfl⟩
    by_cases hlt : k < a.length
    · have h1 := h.below hbel
      have h2 := h'.below hbel
      have hst : Hid ((a.take (k + 1)).map (fun r => rowM r b b.length) = (a.take k).map (fun r => rowM r b b.length) ++ [rowM a[k] b b.length]) := by
        unfold Hid; rw [List.take_succ_eq_append_getElem hlt, List.map_append]; rfl
      have hrl : a[k].length = a.length := (HA.out _ (List.getElem_mem hlt)).1
      have HRL := Lib.hid hrl
      clear hrl
      have hl0 := OwnI.lit (B := wo.heap.size) wo [] (Nat.le_refl _) (by simp [maxLen])
      go_wp2_with fail
      go_loopw [8, 9] (fun v j wr => ∃ m : Nat, m ≤ a.length ∧ j = .int .i64 m ∧ OwnI wo.heap.size wr v (rowM a[k] b m) ∧ Below wo.heap.size wo wr) (fun _ j _ => a.length - (intOf j).toNat)
      case atStart => exact ⟨0, Nat.zero_le _, rfl, by simpa [rowM] using hl0, (Below.refl _ _).alloc (Nat.le_refl _) _⟩
      case round =>
        obtain ⟨m, hm, rfl, hrow, hbr⟩ := hrel
        clear hl0
        obtain ⟨wi, rfl⟩ : ∃ wi : World, wi = wr := ⟨_, rfl⟩
        by_cases hltm : m < a.length
        · have h3 := h1.below hbr
          have h4 := h2.below hbr
          go_wp2_with fail
          go_loopw [10, 11] (fun s j wr => ∃ t : Nat, t ≤ a.length ∧ j = .int .i64 t ∧ s = .int .i64 (dotN a[k] (colL b m) t) ∧ Drawn wi wr) (fun _ j _ => a.length - (intOf j).toNat)
          case atStart => exact ⟨0, Nat.zero_le _, rfl, rfl, Drawn.refl _⟩
          case round =>
            obtain ⟨t, ht, rfl, rfl, hdr⟩ := hrel
            by_cases hltt : t < a.length
            · have h5 := hdr.rdII h3
              have h6 := hdr.rdII h4
              obtain ⟨b1, o1, rfl, hb1, hc1⟩ := h5.pos hlt
              obtain ⟨b2, o2, rfl, hb2, hc2⟩ := h6.pos (k := t) (by have := HAB.out; omega)
              obtain ⟨r1, d1, e1, g1⟩ := hc1 k hlt
              have htb : t < b.length := by have := HAB.out; omega
              obtain ⟨r2, d2, e2, g2⟩ := hc2 t htb
              clear hc1 hc2
              have hbl : b[t].length = b.length := (HB.out _ (List.getElem_mem htb)).1
              have hla : t < a[k].length := by have := HRL.out; omega
              have hlb : m < b[t].length := by have := HAB.out; omega
              have HBL := Lib.hid hbl
              clear hbl
              obtain ⟨b3, o3, rfl, hb3, hc3⟩ := g1.pos hla
              obtain ⟨b4, o4, rfl, hb4, hc4⟩ := g2.pos hlb
              have e3 := hc3 t hla
              have e4 := hc4 m hlb
              clear hc3 hc4
              have hs : Hid (dotN a[k] (colL b m) (t + 1) = smp (dotN a[k] (colL b m) t + a[k][t] * b[t][m])) := by
                unfold Hid; rw [dotN, getD_of_lt 0 hla, colL_get b m t htb, getD_of_lt 0 hlb]
              generalize a[k][t] = x at e3 hs
              generalize b[t][m] = y at e4 hs
              generalize dotN a[k] (colL b m) t = s at hs
              have HM : Hid (∀ n, Calls Try.prog 24 #[.int .i64 x, .int .i64 y] (wr.drewN n) fun e w' => e = .returned (.int .i64 (smp (x * y))) ∧ w' = wr.drewN n) := fun n => (l01Mul_any _ _ _).mono fun e w' h => ⟨h.1, h.2.symm⟩
              have HS : Hid (∀ n, Calls Try.prog 25 #[.int .i64 s, .int .i64 (smp (x * y))] (wr.drewN n) fun e w' => e = .returned (.int .i64 (smp (s + smp (x * y)))) ∧ w' = wr.drewN n) := fun n => (l01Add_any _ _ _).mono fun e w' h => ⟨h.1, h.2.symm⟩
              go_wp2_with fail
              go_quiet ((first | (go_at_call 24; exact Calls.quiet_of_same (HM.out _)) | (go_at_call 25; exact Calls.quiet_of_same (HS.out _))))
              go_wp2_with fail
              go_roundw
              case rel => exact ⟨t + 1, by omega, by go_num, by rw [hs.out, smp_add_right], hdr.on _⟩
              case measure => simp [intOf] <;> omega
            · obtain rfl : t = a.length := by omega
              have hb5 := hdr.below wi.heap.size
              have hrow' := hrow.below hb5
              have hbr' := hbr.trans (hb5.mono hbr.size)
              have hsz := hbr'.size
              have hlen : (rowM a[k] b m).length < 17592186044415 := by rw [rowM_length]; omega
              have hrs := rowM_succ a[k] b m
              rw [HRL.out] at hrs
              have HRS := Lib.hid hrs
              clear hrs
              go_wp2_with (at_builtin; refine wpList_append_one rfl _ _ rfl rfl hrow' rfl hbr' hlen hsz (Nat.le_refl _) ?_; intro v' w1 hown1 hbel1 _ _)
              go_roundw
              case rel => exact ⟨m + 1, by omega, by go_num, by rw [HRS.out]; exact hown1, hbel1⟩
              case measure => simp [intOf] <;> omega
        · obtain rfl : m = a.length := by omega
          obtain ⟨qv, cv, rfl, -⟩ := hrow.rd
          rw [rowM_length] at hrow ⊢
          have hown' := hown.below hbr
          have hbel' := hbel.trans (hbr.mono hbel.size)
          have hrow' := hrow.mono hbel.size
          have hrow2 : OwnI w.heap.size wi (.slice qv a.length cv) (rowM a[k] b b.length) := by rw [← HAB.out]; exact hrow'
          have hnew : ∀ x, (Value.slice qv a.length cv).ownBlock = some x → ¬ Blk L x := fun x hx hbk => by have := (hrow.lt hx).1; have := (hown.2.1.blk hbk).2.1; omega
          have HNEW := Lib.hid hnew
          clear hnew hrow'
          have hsz := hbel'.size
          have hlen : L.length < 1099511627776 := by have := hown.2.1.1; simp at this; omega
          have hone := hrow.oneCell
          go_wp2_with (at_builtin; refine wpList_append_val rfl _ _ rfl 24 (.slice none 0 0) Try.underlying23 infoII rfl (by omega) rfl hown'.1 rfl hone hbel' hlen hsz (Nat.le_refl _) ?_; intro v' w1 hown1 hbel1 _ hk1)
          have hfin := hown'.snoc hrow2 HNEW.out hown1 hk1
          have HF := Lib.hid hfin
          clear hfin hk1 hown1
          go_roundw
          case rel => exact ⟨k + 1, by omega, by go_num, _, by rw [hst.out]; exact HF.out, hbel1⟩
          case measure => simp [intOf] <;> omega
    · obtain rfl : k = a.length := by omega
      go_wp2_with fail
      go_ret2
      exact ⟨_, L, rfl, by simpa [mulM] using hown, hbel⟩
def rowsL (cols : List (List Int)) (n : Nat) : List (List Int) := (List.range n).map fun i => cols.map fun c => c.getD i 0
theorem rowsL_length (cols : List (List Int)) (n : Nat) : (rowsL cols n).length = n := by simp [rowsL]
theorem rowsL_succ (cols : List (List Int)) (n : Nat) : rowsL cols (n + 1) = rowsL cols n ++ [colL cols n] := by
  simp [rowsL, colL, List.range_succ]
theorem colL_take (cols : List (List Int)) (i j : Nat) (h : j < cols.length) : colL (cols.take (j + 1)) i = colL (cols.take j) i ++ [cols[j].getD i 0] := by
  unfold colL; rw [List.take_succ_eq_append_getElem h, List.map_append]; rfl
/-- the call has written to one block and to new ones alone -/
def Nxt (g B : Nat) (w w' : World) : Prop := Off (fun k => k = g ∨ B ≤ k) w w'
theorem set_mid (L : List Value) (u v : Value) (R : List Value) (k : Nat) (hL : L.length = k) : (L ++ u :: R).set k v = L ++ v :: R := by
  subst hL
  rw [List.set_append_right _ _ (Nat.le_refl _), Nat.sub_self, List.set_cons_zero]

set_option maxHeartbeats 4000000 in
theorem columnsToRows_any {p : Option Addr} {c : Nat} {cols : List (List Int)} (n : Nat) (w : World) (h : RdII w p cols) (hc : ∀ x ∈ cols, n ≤ x.length) (hn : n ≤ 1048576) (hm : cols.length ≤ 1048576) :
    Calls Try.prog 17 #[.slice p cols.length c, .int .i64 n] w fun e w' => ∃ v L, e = .returned v ∧ OwnII w.heap.size w' v (rowsL cols n) L ∧ Below w.heap.size w w' := by
  have HC := Lib.hid hc
  clear hc
  have hmk := fun w => run_make_row' (P := Try.prog) 23 31 (.slice none 0 0) 24 Try.underlying23 infoII rfl .i64 .i64 n (by omega) (by omega) w
  have h0 := OwnV.made (B := w.heap.size) w 31 (.slice none 0 0) n (Nat.le_refl _) (by unfold maxLen; omega)
  go_enter Try.func17, Try.ntmps17
  go_wp2_with fail
  go_loopw [13] (fun i wr => ∃ k : Nat, k ≤ n ∧ i = .int .i64 k ∧ ∃ L : List Value, OwnV w.heap.size wr 31 (.slice (some ⟨w.heap.size, 0, none⟩) n n) (L ++ List.replicate (n - k) (.slice none 0 0)) ∧
      OwnIs w.heap.size wr L (rowsL cols k) ∧ Dis L ∧ Below w.heap.size w wr) (fun i _ => n - (intOf i).toNat)
  case atStart =>
    exact ⟨0, Nat.zero_le _, rfl, [], by simpa using h0, by simpa [rowsL] using OwnIs.nil _ _, List.Pairwise.nil, (Below.refl _ _).alloc (Nat.le_refl _) _⟩
  case round =>
    obtain ⟨k, hk, rfl, L, hown, hin, hdis, hbel⟩ := hrel
    clear h0
    obtain ⟨wo, rfl⟩ : ∃ wo : World, wo = wr := ⟨_, rfl⟩
    have hLk : L.length = k := by rw [hin.1, rowsL_length]
    have HL := Lib.hid hLk
    by_cases hlt : k < n
    · have hrep : List.replicate (n - k) (Value.slice none 0 0) = Value.slice none 0 0 :: List.replicate (n - (k + 1)) (Value.slice none 0 0) := by
        rw [show n - k = (n - (k + 1)) + 1 by omega]; rfl
      rw [hrep] at hown
      clear hrep
      have hgs := (hown.lt (k := w.heap.size) rfl).2
      have hne : (L ++ Value.slice none 0 0 :: List.replicate (n - (k + 1)) (Value.slice none 0 0)).length = n := by have := HL.out; simp; omega
      -- the world behind 'out[i] = []int64{}'
      obtain ⟨-, -, -, hg1', hg2', hst⟩ := hown.storing (k := k) (by rw [hne]; exact hlt)
      have hst0 := hst (.slice (some ⟨wo.heap.size, 0, none⟩) 0 0)
      rw [set_mid L _ _ _ k HL.out] at hst0
      have hx : (L ++ Value.slice none 0 0 :: List.replicate (n - (k + 1)) (Value.slice none 0 0))[k]'(by rw [hne]; exact hlt) = Value.slice none 0 0 := by
        rw [List.getElem_append_right (by have := HL.out; omega)]
        simp [HL.out]
      rw [hx] at hg1'
      have hg1 : (wo.alloc (.cells #[] 2)).cell? ⟨w.heap.size, k, none⟩ = some (.slice none 0 0) := by rw [World.cell?_alloc_past _ _ _ hgs]; exact hg1'
      have hg2 : (wo.alloc (.cells #[] 2)).frozen? ⟨w.heap.size, k, none⟩ = false := (World.frozen?_of_block (w := wo) (a := ⟨w.heap.size, k, none⟩) (Below.heap_alloc _ _ _ hgs)).trans hg2'
      clear hst hx hLk hg1' hg2'
      have hsz0 : (wo.setCell ⟨w.heap.size, k, none⟩ (.slice (some ⟨wo.heap.size, 0, none⟩) 0 0)).heap.size = wo.heap.size := by simp [World.setCell]
      have hst' := hst0.keep (w' := (wo.setCell ⟨w.heap.size, k, none⟩ (.slice (some ⟨wo.heap.size, 0, none⟩) 0 0)).alloc (.cells #[] 2)) fun b hb => Below.heap_alloc _ _ _ (hst0.lt hb).2
      have hu0 := OwnI.lit (B := wo.heap.size) (wo.setCell ⟨w.heap.size, k, none⟩ (.slice (some ⟨wo.heap.size, 0, none⟩) 0 0)) [] (Nat.le_of_eq hsz0.symm) (by simp [maxLen])
      rw [hsz0] at hu0
      have hoff0 : Off (fun b => b = w.heap.size ∨ wo.heap.size ≤ b) wo ((wo.setCell ⟨w.heap.size, k, none⟩ (.slice (some ⟨wo.heap.size, 0, none⟩) 0 0)).alloc (.cells #[] 2)) :=
        ⟨rfl, rfl, rfl, by simp [World.setCell], fun b hb hs => (Below.heap_alloc _ _ _ (by rw [hsz0]; exact hb)).trans (Below.heap_setCell _ _ _ _ (fun e => hs (.inl e)))⟩
      clear hst0 hsz0
      have HG1 := Lib.hid hg1; have HG2 := Lib.hid hg2
      have HST := Lib.hid hst'; have HU0 := Lib.hid hu0; have HO0 := Lib.hid hoff0
      clear hst' hu0 hoff0
      have hcl := h.len
      unfold maxLen at hcl
      have hB2 : w.heap.size < wo.heap.size := hgs
      clear hg1 hg2
      have hg1 : (wo.alloc (.cells #[] 2)).cell? ⟨w.heap.size, k, none⟩ = some (.slice none 0 0) := HG1.out
      have hg2 : (wo.alloc (.cells #[] 2)).frozen? ⟨w.heap.size, k, none⟩ = false := HG2.out
      go_wp2_with fail
      clear hg1 hg2
      go_loopw [22] (fun j wr => ∃ m : Nat, m ≤ cols.length ∧ j = .int .i64 m ∧ ∃ u, OwnV w.heap.size wr 31 (.slice (some ⟨w.heap.size, 0, none⟩) n n) (L ++ u :: List.replicate (n - (k + 1)) (.slice none 0 0)) ∧
        OwnI wo.heap.size wr u (colL (cols.take m) k) ∧ Off (fun b => b = w.heap.size ∨ wo.heap.size ≤ b) wo wr) (fun j _ => cols.length - (intOf j).toNat)
      case atStart => exact ⟨0, Nat.zero_le _, rfl, _, HST.out, by simpa [colL] using HU0.out, HO0.out⟩
      case round =>
        obtain ⟨m, hm, rfl, u, hv, hu, hoff⟩ := hrel
        obtain ⟨wi, rfl⟩ : ∃ wi : World, wi = wr := ⟨_, rfl⟩
        have hkeep : ∀ b, b < w.heap.size → wi.heap[b]? = w.heap[b]? := fun b hb => (hoff.block b (by omega) (by omega)).trans (hbel.block b hb)
        by_cases hltm : m < cols.length
        · obtain ⟨bc, oc, rfl, hbc, hcc⟩ := h.pos hltm
          obtain ⟨rc, dc, e1, g1⟩ := hcc m hltm
          clear hcc
          have hcm : k < cols[m].length := by have := HC.out _ (List.getElem_mem hltm); omega
          have e1' : wi.cell? ⟨bc, oc + m, none⟩ = some (.slice rc cols[m].length dc) := (World.cell?_of_block (w := w) (a := ⟨bc, oc + m, none⟩) (hkeep bc hbc)).trans e1
          have hst2 : Hid (colL (cols.take (m + 1)) k = colL (cols.take m) k ++ [cols[m][k]]) := by
            unfold Hid; rw [colL_take cols k m hltm, getD_of_lt 0 hcm]
          obtain ⟨bx, ox, rfl, hbx, hcx⟩ := g1.pos hcm
          have e2' : wi.cell? ⟨bx, ox + k, none⟩ = some (.int .i64 cols[m][k]) := (World.cell?_of_block (w := w) (a := ⟨bx, ox + k, none⟩) (hkeep bx hbx)).trans (hcx k hcm)
          clear hcx e1 g1 hkeep
          generalize cols[m][k] = x at e2' hst2
          generalize cols[m].length = cl at e1' hcm
          have hlen : (colL (cols.take m) k).length < 17592186044415 := by rw [colL_length]; simp; omega
          have hBs : wo.heap.size ≤ wi.heap.size := hoff.size
          obtain ⟨qu, cu, rfl, -⟩ := hu.rd
          have hlu : (L ++ (Value.slice qu (colL (cols.take m) k).length cu) :: List.replicate (n - (k + 1)) (Value.slice none 0 0)).length = n := by have := HL.out; simp; omega
          obtain ⟨-, -, -, c1, c2, -⟩ := hv.storing (k := k) (by rw [hlu]; exact hlt)
          have hx : (L ++ (Value.slice qu (colL (cols.take m) k).length cu) :: List.replicate (n - (k + 1)) (Value.slice none 0 0))[k]'(by rw [hlu]; exact hlt) = Value.slice qu (colL (cols.take m) k).length cu := by
            rw [List.getElem_append_right (by have := HL.out; omega)]
            simp [HL.out]
          rw [hx] at c1
          have hug : (Value.slice qu (colL (cols.take m) k).length cu).ownBlock ≠ some w.heap.size := fun e => by have := (hu.lt e).1; omega
          have HUG := Lib.hid hug
          have HLU := Lib.hid hlu
          clear hx hlu hug
          have hal1 : (wi.alloc (.cells #[.int .i64 x] 2)).cell? ⟨w.heap.size, k, none⟩ = some (.slice qu (colL (cols.take m) k).length cu) := by
            rw [World.cell?_alloc_past _ _ _ (by show w.heap.size < wi.heap.size; omega)]; exact c1
          go_wp2_with fail
          go_region_law ((refine step_append_drew rfl _ _ rfl rfl hu rfl hlen hBs ?_; intro q2 k2 w2 ho2 o1 o2 o3 hs2 hk2; have hv2 := hv.keep (w' := w2) (fun b hb => by simp only [Value.ownBlock, Option.some.injEq] at hb; subst hb; exact hk2 _ (by show w.heap.size < wi.heap.size; omega) HUG.out); obtain ⟨-, -, -, f1, f2, f3⟩ := hv2.storing (k := k) (by rw [HLU.out]; exact hlt); have F3 := Lib.hid (f3 (.slice q2 ((colL (cols.take m) k).length + 1) k2)); clear f3))
          all_goals
            have hfin : OwnV w.heap.size (w2.setCell ⟨w.heap.size, k, none⟩ (.slice q2 ((colL (cols.take m) k).length + 1) k2)) 31 (.slice (some ⟨w.heap.size, 0, none⟩) n n) (L ++ (.slice q2 ((colL (cols.take m) k).length + 1) k2) :: List.replicate (n - (k + 1)) (.slice none 0 0)) := by
              have := F3.out
              rwa [set_mid L _ _ _ k HL.out] at this
            have hfi : OwnI wo.heap.size (w2.setCell ⟨w.heap.size, k, none⟩ (.slice q2 ((colL (cols.take m) k).length + 1) k2)) (.slice q2 ((colL (cols.take m) k).length + 1) k2) (colL (cols.take (m + 1)) k) := by
              rw [hst2.out]
              exact ho2.keep fun b hb => Below.heap_setCell _ _ _ _ (by have := (ho2.lt hb).1; show b ≠ w.heap.size; omega)
            have hfo : Off (fun b => b = w.heap.size ∨ wo.heap.size ≤ b) wo (w2.setCell ⟨w.heap.size, k, none⟩ (.slice q2 ((colL (cols.take m) k).length + 1) k2)) :=
              hoff.trans ⟨o1.symm, o2.symm, o3.symm, by simpa [World.setCell] using hs2, fun b hb hs => (Below.heap_setCell _ _ _ _ (fun e => hs (.inl e))).trans (hk2 b hb (fun e => hs (.inr (hu.lt e).1)))⟩
            have HF1 := Lib.hid hfin; have HF2 := Lib.hid hfi; have HF3 := Lib.hid hfo
            clear hfin hfi hfo F3 ho2 o1 o2 o3 hk2 hv2 f1 f2
            go_wp2_with fail
            go_roundw
            case rel => exact ⟨m + 1, by omega, by go_num, _, HF1.out, HF2.out, HF3.out⟩
            case measure => simp [intOf] <;> omega
        · obtain rfl : m = cols.length := by omega
          rw [List.take_length] at hu
          have hb2 : Below w.heap.size wo wi := hoff.below (fun b hb => by rcases hb with rfl | hb <;> omega) (by omega)
          have hbel' := hbel.trans hb2
          have hin2 : OwnIs w.heap.size wi (L ++ [u]) (rowsL cols (k + 1)) := by
            rw [rowsL_succ]
            refine (hin.keep fun b hb => hoff.block b (hin.blk hb).2.1 (fun e => ?_)).snoc (hu.mono (by omega))
            rcases e with e | e
            · exact hown.off (by decide) hin (k := w.heap.size) rfl (e ▸ hb)
            · have := (hin.blk hb).2.1; omega
          have hdis2 : Dis (L ++ [u]) := hdis.snoc fun b hb hbl => by have := (hu.lt hb).1; have := (hin.blk hbl).2.1; omega
          have hv2 : OwnV w.heap.size wi 31 (.slice (some ⟨w.heap.size, 0, none⟩) n n) ((L ++ [u]) ++ List.replicate (n - (k + 1)) (.slice none 0 0)) := by
            rw [List.append_assoc]; exact hv
          have HI := Lib.hid hin2; have HD := Lib.hid hdis2; have HV := Lib.hid hv2
          clear hin2 hdis2 hv2 hkeep
          go_wp2_with fail
          go_roundw
          case rel => exact ⟨k + 1, by omega, by go_num, _, HV.out, HI.out, HD.out, hbel'⟩
          case measure => simp [intOf] <;> omega
    · obtain rfl : k = n := by omega
      go_wp2_with fail
      go_ret
      exact ⟨_, L, rfl, ⟨by simpa using hown, hin, hdis⟩, hbel⟩
theorem rowsL_get (cols : List (List Int)) (n k : Nat) (h : k < n) : (rowsL cols n)[k]'(by rw [rowsL_length]; exact h) = colL cols k := by simp [rowsL, colL]
set_option maxHeartbeats 4000000 in
theorem implMul_any {p q : Option Addr} {c d : Nat} {a b : List (List Int)} (w : World) (h : RdII w p a) (h' : RdII w q b) (ha : matB a = true) (hb : matB b = true) (hab : a.length = b.length) :
    Calls Try.prog 5 #[.slice p a.length c, .slice q b.length d] w fun e w' => ∃ v L, e = .returned (.tuple #[v, .int .i64 0]) ∧ OwnII w.heap.size w' v (mulM a b) L ∧ Below w.heap.size w w' := by
  have HA := Lib.hid ((matB_iff).1 ha).2
  have hbb : ∀ x ∈ b, b.length ≤ x.length := fun x hx => by have := (((matB_iff).1 hb).2 x hx).1; omega
  have hl1 := ((matB_iff).1 ha).1
  have hl2 := h'.len
  have HAB := Lib.hid hab
  have hl3 : b.length ≤ 24 := ((matB_iff).1 hb).1
  have hne : (((a.length : Int) != (b.length : Int))) = false := by rw [bne_eq_false_iff_eq]; omega
  clear hab
  go_enter Try.func5, Try.ntmps5
  go_wp2_with (first | (go_at_call_of 16 (Value.slice p a.length c); refine (isMatrix_any _ h).mono ?_; rintro e w' ⟨rfl, rfl⟩) | (go_at_call 16; refine (isMatrix_any _ h').mono ?_; rintro e w' ⟨rfl, rfl⟩) | (go_at_call 18; refine (sizeII_any _ _ _ _ hl2).mono ?_; rintro e w' ⟨rfl, rfl⟩))
  clear ha hb hne
  refine (columnsToRows_any b.length _ h' hbb (by omega) (by omega)).mono ?_
  rintro e w1 ⟨vc, Lc, rfl, hoc, hb1⟩
  obtain ⟨pc, cc, rfl, hrc⟩ := hoc.rd
  rw [rowsL_length]
  have hrcl := hrc.len
  rw [rowsL_length] at hrcl
  unfold maxLen at hrcl
  have h0 := OwnII.empty (B := w1.heap.size) w1 (Nat.le_refl _)
  clear hoc hbb
  go_wp2_with fail
  go_loopw [7, 33] (fun v i wr => ∃ k : Nat, k ≤ a.length ∧ i = .int .i64 k ∧ ∃ L, OwnII w1.heap.size wr v ((a.take k).map fun r => rowM r b b.length) L ∧ Below w1.heap.size w1 wr) (fun _ i _ => a.length - (intOf i).toNat)
  case atStart => exact ⟨0, Nat.zero_le _, rfl, [], by simpa using h0, (Below.refl _ _).alloc (Nat.le_refl _) _⟩
  case round =>
    obtain ⟨k, hk, rfl, L, hown, hbel⟩ := hrel
    clear h0
    obtain ⟨wo, rfl⟩ : ∃ wo : World, wo = wr := ⟨_, rfl⟩
    by_cases hlt : k < a.length
    · have h1 := (h.below hb1).below hbel
      have h2 := hrc.below hbel
      have hst : Hid ((a.take (k + 1)).map (fun r => rowM r b b.length) = (a.take k).map (fun r => rowM r b b.length) ++ [rowM a[k] b b.length]) := by
        unfold Hid; rw [List.take_succ_eq_append_getElem hlt, List.map_append]; rfl
      have hrl : a[k].length = b.length := (HA.out _ (List.getElem_mem hlt)).1.trans HAB.out
      obtain ⟨bk, ok, rfl, hbk, hck⟩ := h1.pos hlt
      obtain ⟨rk, dk, e1, g1⟩ := hck k hlt
      clear hck
      generalize hrow : a[k] = row at e1 g1 hst hrl
      clear hrow
      have HRL := Lib.hid hrl
      clear hrl
      have hl0 := OwnI.lit (B := wo.heap.size) wo [] (Nat.le_refl _) (by simp [maxLen])
      go_wp2_with fail
      go_loopw [10, 40] (fun v j wr => ∃ m : Nat, m ≤ b.length ∧ j = .int .i64 m ∧ OwnI wo.heap.size wr v (rowM row b m) ∧ Below wo.heap.size wo wr) (fun _ j _ => b.length - (intOf j).toNat)
      case atStart => exact ⟨0, Nat.zero_le _, rfl, by simpa [rowM] using hl0, (Below.refl _ _).alloc (Nat.le_refl _) _⟩
      case round =>
        obtain ⟨m, hm, rfl, hr, hbr⟩ := hrel
        clear hl0
        obtain ⟨wi, rfl⟩ : ∃ wi : World, wi = wr := ⟨_, rfl⟩
        by_cases hltm : m < b.length
        · have h3 := g1.below hbr
          have h4 := h2.below hbr
          obtain ⟨b2, o2, rfl, hb2, hc2⟩ := h4.pos (k := m) (by rw [rowsL_length]; exact hltm)
          obtain ⟨r2, d2, e2, g2⟩ := hc2 m (by rw [rowsL_length]; exact hltm)
          rw [rowsL_get b _ m hltm] at e2 g2
          rw [colL_length] at e2
          clear hc2
          have hdot : Hid (Calls Try.prog 19 #[.slice rk row.length dk, .slice r2 b.length d2] wi fun e w' => e = .returned (.int .i64 (dotN row (colL b m) row.length)) ∧ wi = w') := by
            have := dot_any (c := dk) (d := d2) wi h3 g2 (by rw [colL_length, HRL.out]; exact Nat.le_refl _)
            rwa [colL_length] at this
          have hsz := hbr.size
          have hlen : (rowM row b m).length < 17592186044415 := by rw [rowM_length]; omega
          have HRS := Lib.hid (rowM_succ row b m)
          generalize dotN row (colL b m) row.length = y at hdot HRS
          go_wp2_with (first | (go_at_call 19; refine hdot.out.mono ?_; rintro e w' ⟨rfl, rfl⟩) | (at_builtin; refine wpList_append_one rfl _ _ rfl rfl hr rfl hbr hlen hsz (Nat.le_refl _) ?_; intro v' w2 hown1 hbel1 _ _))
          go_roundw
          case rel => exact ⟨m + 1, by omega, by go_num, by rw [HRS.out]; exact hown1, hbel1⟩
          case measure => simp [intOf] <;> omega
        · obtain rfl : m = b.length := by omega
          obtain ⟨qv, cv, rfl, -⟩ := hr.rd
          have hown' := hown.below hbr
          have hbel' := hbel.trans (hbr.mono hbel.size)
          have hrow2 := hr.mono hbel.size
          have hnew : ∀ x, (Value.slice qv (rowM row b b.length).length cv).ownBlock = some x → ¬ Blk L x := fun x hx hbk => by have := (hr.lt hx).1; have := (hown.2.1.blk hbk).2.1; omega
          have HNEW := Lib.hid hnew
          clear hnew
          have hsz := hbel'.size
          have hlen : L.length < 1099511627776 := by have := hown.2.1.1; simp at this; omega
          have hone := hr.oneCell
          go_wp2_with (at_builtin; refine wpList_append_val rfl _ _ rfl 24 (.slice none 0 0) Try.underlying23 infoII rfl (by omega) rfl hown'.1 rfl hone hbel' hlen hsz (Nat.le_refl _) ?_; intro v' w2 hown1 hbel1 _ hk1)
          have hfin := hown'.snoc hrow2 HNEW.out hown1 hk1
          have HF := Lib.hid hfin
          clear hfin hk1 hown1
          go_roundw
          case rel => exact ⟨k + 1, by omega, by go_num, _, by rw [hst.out]; exact HF.out, hbel1⟩
          case measure => simp [intOf] <;> omega
    · obtain rfl : k = a.length := by omega
      have hbelw := hb1.trans (hbel.mono hb1.size)
      go_wp2_with fail
      go_ret2
      exact ⟨_, L, rfl, by simpa [mulM] using hown.mono hb1.size, hbelw⟩
def mulCode (a b : List (List Int)) : Int := if matB a && matB b then (if a.length = b.length then 0 else 6) else 1
def mulRes (a b : List (List Int)) : List (List Int) := if matB a && matB b then (if a.length = b.length then mulM a b else []) else []
theorem lens_le (l : List (List Int)) (n : Nat) (h : ∀ r ∈ l, r.length ≤ n) : lens l ≤ l.length * n := by
  induction l with
  | nil => simp [lens]
  | cons x r ih =>
    rw [lens_cons, List.length_cons, Nat.add_mul, Nat.one_mul]
    have := ih (fun r hr => h r (List.mem_cons_of_mem _ hr))
    have := h x (List.mem_cons_self ..)
    omega
theorem mulRes_small (a b : List (List Int)) : cntII (mulRes a b) ≤ 1048576 := by
  unfold cntII mulRes
  split
  · rename_i h
    rw [Bool.and_eq_true] at h
    have h1 := (matB_iff.1 h.1).1
    have h2 := (matB_iff.1 h.2).1
    split
    · have := lens_le (mulM a b) b.length (fun r hr => by
        simp only [mulM, List.mem_map] at hr
        obtain ⟨x, _, rfl⟩ := hr
        rw [rowM_length]; exact Nat.le_refl _)
      have e : (mulM a b).length = a.length := by simp [mulM]
      rw [e] at this
      have : a.length * b.length ≤ 24 * 24 := Nat.mul_le_mul h1 h2
      omega
    · simp [lens]
  · simp [lens]
/-- a list of rows of the call's own, and a code -/
def RetII (w : World) (xs : List (List Int)) (code : Int) (e : Ending) (w' : World) : Prop := ∃ u L, e = .returned (.tuple #[u, .int .i64 code]) ∧ OwnII w.heap.size w' u xs L ∧ Dis L ∧ Below w.heap.size w w'
theorem OwnII.nilv (B : Nat) (w : World) : OwnII B w (.slice none 0 0) [] [] := ⟨World.ownsRow_nil w B _ 1, OwnIs.nil _ _, List.Pairwise.nil⟩
theorem specMulMatrix_v {v v' : Value} {a b : List (List Int)} (w : World) (h : VII w v a) (h' : VII w v' b) :
    Calls Try.prog 10 #[v, v'] w (RetII w (mulRes a b) (mulCode a b)) := by
  obtain ⟨p, c, rfl, h⟩ := h
  obtain ⟨q, d, rfl, h'⟩ := h'
  have hl1 := h.len
  have hl2 := h'.len
  unfold maxLen at hl1 hl2
  unfold mulCode mulRes
  cases ha : matB a
  case false =>
    simp only [Bool.false_and]
    go_enter Try.func10, Try.ntmps10
    go_wp2_with (go_at_call 22; refine (l09Square_any _ h).mono ?_; rintro e w' ⟨rfl, rfl⟩)
    go_ret2
    exact ⟨_, [], rfl, OwnII.nilv _ _, List.Pairwise.nil, Below.refl _ _⟩
  cases hb : matB b
  case false =>
    simp only [Bool.and_false]
    go_enter Try.func10, Try.ntmps10
    go_wp2_with (first | (go_at_call_of 22 (Value.slice p a.length c); refine (l09Square_any _ h).mono ?_; rintro e w' ⟨rfl, rfl⟩) | (go_at_call 22; refine (l09Square_any _ h').mono ?_; rintro e w' ⟨rfl, rfl⟩))
    go_ret2
    exact ⟨_, [], rfl, OwnII.nilv _ _, List.Pairwise.nil, Below.refl _ _⟩
  by_cases hab : a.length = b.length
  · rw [if_pos hab]
    exact (specMul_any w h h' ha hb hab).mono fun e w' ⟨u, L, he, ho, hw⟩ => ⟨u, L, by rw [he]; simp [hab], by simpa [hab] using ho, ho.2.2, hw⟩
  · simp only [hab, if_false, Bool.and_self, if_true]
    have hne : (((a.length : Int) != (b.length : Int))) = true := by rw [bne_iff_ne]; omega
    clear hab
    go_enter Try.func10, Try.ntmps10
    go_wp2_with (first | (go_at_call_of 22 (Value.slice p a.length c); refine (l09Square_any _ h).mono ?_; rintro e w' ⟨rfl, rfl⟩) | (go_at_call 22; refine (l09Square_any _ h').mono ?_; rintro e w' ⟨rfl, rfl⟩))
    go_ret2
    exact ⟨_, [], rfl, OwnII.nilv _ _, List.Pairwise.nil, Below.refl _ _⟩
theorem implMulMatrix_v {v v' : Value} {a b : List (List Int)} (w : World) (h : VII w v a) (h' : VII w v' b) :
    Calls Try.prog 5 #[v, v'] w (RetII w (mulRes a b) (mulCode a b)) := by
  obtain ⟨p, c, rfl, h⟩ := h
  obtain ⟨q, d, rfl, h'⟩ := h'
  have hl1 := h.len
  have hl2 := h'.len
  unfold maxLen at hl1 hl2
  unfold mulCode mulRes
  cases ha : matB a
  case false =>
    simp only [Bool.false_and]
    go_enter Try.func5, Try.ntmps5
    go_wp2_with (go_at_call 16; refine (isMatrix_any _ h).mono ?_; rintro e w' ⟨rfl, rfl⟩)
    go_ret2
    exact ⟨_, [], rfl, OwnII.nilv _ _, List.Pairwise.nil, Below.refl _ _⟩
  cases hb : matB b
  case false =>
    simp only [Bool.and_false]
    go_enter Try.func5, Try.ntmps5
    go_wp2_with (first | (go_at_call_of 16 (Value.slice p a.length c); refine (isMatrix_any _ h).mono ?_; rintro e w' ⟨rfl, rfl⟩) | (go_at_call 16; refine (isMatrix_any _ h').mono ?_; rintro e w' ⟨rfl, rfl⟩))
    go_ret2
    exact ⟨_, [], rfl, OwnII.nilv _ _, List.Pairwise.nil, Below.refl _ _⟩
  by_cases hab : a.length = b.length
  · rw [if_pos hab]
    exact (implMul_any w h h' ha hb hab).mono fun e w' ⟨u, L, he, ho, hw⟩ => ⟨u, L, by rw [he]; simp [hab], by simpa [hab] using ho, ho.2.2, hw⟩
  · simp only [hab, if_false, Bool.and_self, if_true]
    have hne : (((a.length : Int) != (b.length : Int))) = true := by rw [bne_iff_ne]; omega
    clear hab
    go_enter Try.func5, Try.ntmps5
    go_wp2_with (first | (go_at_call_of 16 (Value.slice p a.length c); refine (isMatrix_any _ h).mono ?_; rintro e w' ⟨rfl, rfl⟩) | (go_at_call 16; refine (isMatrix_any _ h').mono ?_; rintro e w' ⟨rfl, rfl⟩))
    go_ret2
    exact ⟨_, [], rfl, OwnII.nilv _ _, List.Pairwise.nil, Below.refl _ _⟩
end Go.Proofs.Ytmfahnkcfcmhiaa
