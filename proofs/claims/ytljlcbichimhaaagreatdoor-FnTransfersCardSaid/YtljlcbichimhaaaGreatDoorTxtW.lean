/-
  Texts parted into words; words read as numbers: the program's contracts.
-/
import Derived.Test.YtljlcbichimhaaaGreatDoorTxtC
import Derived.Test.YtljlcbichimhaaaGreatDoorTxtD
import Derived.ArgAppend
import Derived.Deep.DeepAppendRoom
namespace Go.Proofs.YtljlcbichimhaaaGreatDoor
open Go.ChangeShapes Go.WideShapes Go.ChangeAt Go.RowKit Go.Sort
set_option linter.unusedVariables false
set_option linter.unusedSimpArgs false

theorem run_append_strN (w : World) (ty : TypeId) {B : Nat} {v : Value} {L : List Value} {y : ByteArray} (hown : OwnV B w 9 v L) {b o : Nat} (hr : w.cell? ⟨b, o, none⟩ = some (.string y)) (hlen : L.length < 1099511627776) (hB : B ≤ w.heap.size) :
    ∃ v' w', (Builtin.append_ #[58, 58] ty #[v, .slice (some ⟨b, o, none⟩) 1 1]).run Tryz.prog w = .ok v' w' ∧ OwnV B w' 9 v' (L ++ [.string y]) ∧ w.grownBy w' v.ownBlock ∧ (∀ k, v'.ownBlock = some k → v.ownBlock = some k ∨ w.heap.size ≤ k) := by
  obtain ⟨i0, hi, hz0, hz1, hz2⟩ := info_parts infoS
  have e1 : (L ++ [Value.string y]).length = L.length + 1 := by simp
  have hnews : ∀ j u, ([Value.string y] : List Value)[j]? = some u → w.cell? ((⟨b, o, none⟩ : Addr).add j) = some u := by
    intro j u hu
    cases j with
    | zero => simp at hu; subst hu; rw [Addr.add_lit, Nat.add_zero]; exact hr
    | succ j => simp at hu
  have hone : ∀ u ∈ ([Value.string y] : List Value), u.oneCell' = true := by
    intro u hu; obtain rfl := List.mem_singleton.1 hu; rfl
  rcases hown.cases with ⟨rfl, rfl⟩ | ⟨g, cap, rfl, hBg, hgl, hcur, hrd⟩
  · obtain ⟨v', w', h1, h2, h3, _⟩ := run_append_own (P := Tryz.prog) w w.heap.size 58 ty 9 i0 (.string ByteArray.empty) 1 16 Tryz.underlying58 hi hz0 hz1 hz2 rfl (by decide) (.slice none 0 0) 0 [] (World.ownsRow_nil w w.heap.size _ 1) ⟨b, o, none⟩ 1 1 [.string y] (by simp) hnews hone (by simp [maxLen]) (by omega) (Nat.le_refl _)
    have ho : OwnV w.heap.size w' 9 v' [.string y] := by simpa [OwnV] using h2
    exact ⟨v', w', h1, by simpa using ho.mono hB, h3, fun k hk => .inr (ho.lt hk).1⟩
  · by_cases hroom : L.length + 1 ≤ cap
    · obtain ⟨w', h1, h2, h3⟩ := run_append_own_spare (P := Tryz.prog) w B 58 ty 9 i0 1 Tryz.underlying58 hi hz1 g L.length cap L hown ⟨b, o, none⟩ 1 1 [.string y] (by simp) hnews hone hroom
      exact ⟨_, w', h1, by rw [OwnV, e1]; exact h2, h3, fun k hk => .inl hk⟩
    · have hc : ∀ j u, L[j]? = some u → w.cell? ((⟨g, 0, none⟩ : Addr).add j) = some u := by
        intro j u hu
        obtain ⟨hj, rfl⟩ := List.getElem?_eq_some_iff.1 hu
        rcases hrd.cells with h0 | ⟨b', o', e', hc'⟩
        · rw [h0] at hj; simp at hj
        · simp only [Option.some.injEq, Addr.mk.injEq, and_true] at e'
          obtain ⟨rfl, rfl⟩ := e'
          rw [Addr.add_lit, hc' j hj]
      obtain ⟨v', w', h1, h2, h3⟩ := run_append_arg_grows (P := Tryz.prog) w 58 ty 9 i0 (.string ByteArray.empty) 1 16 Tryz.underlying58 hi hz0 hz1 hz2 rfl (by decide) ⟨g, 0, none⟩ L.length cap L (by simp) hc ⟨b, o, none⟩ 1 1 [.string y] (by simp) hnews (by omega) (by simp only [maxLen]; omega) (by omega)
      have ho : OwnV w.heap.size w' 9 v' (L ++ [.string y]) := by rw [OwnV, e1]; exact h2
      exact ⟨v', w', h1, ho.mono hB, ⟨h3.os, h3.tape, h3.output, h3.size, fun k hk _ => h3.block k hk (by simp)⟩, fun k hk => .inr (ho.lt hk).1⟩

theorem wpList_append_strN {ops : Array Oper} {rest : List Oper} {o : Oper} {a : Act} {Q : Exit → Act → World → Prop} {w : World} {y : ByteArray} (hgd : o.guard = none) (s x : Operand)
    (ho : o.op = .call { callee := .builtin .append, args := #[s, x], argTypes := #[58, 58] })
    {B B0 : Nat} {w0 : World} {v : Value} {L : List Value} (hs : a.eval s = v) (hown : OwnV B w 9 v L) (hx : a.eval x = .slice (some ⟨w.heap.size, 0, none⟩) 1 1) (hbel : Below B0 w0 w) (hlen : L.length < 1099511627776) (hB : B ≤ w.heap.size) (hB0 : B0 ≤ B)
    (h : ∀ v' w', OwnV B w' 9 v' (L ++ [.string y]) → Below B0 w0 w' → w.heap.size ≤ w'.heap.size → (∀ k, k < w.heap.size → v.ownBlock ≠ some k → w'.heap[k]? = w.heap[k]?) → (∀ k, v'.ownBlock = some k → v.ownBlock = some k ∨ w.heap.size ≤ k) → wpList Tryz.prog ops Q rest (a.put o.dst v') w') : wpList Tryz.prog ops Q (o :: rest) a (w.alloc (.cells #[.string y] 9)) := by
  refine wpList_plain hgd fun K hK => ?_
  obtain ⟨v', w', h1, h2, h3, h4⟩ := run_append_strN (w.alloc (.cells #[.string y] 9)) o.type (hown.keep fun k hk => Below.heap_alloc _ _ _ (hown.lt hk).2) (b := w.heap.size) (o := 0) (y := y) ((Box.new w [.string y] 9).cell 0 rfl) hlen (by simp; omega)
  unfold Oper.wp execOp
  simp only [ho, resolve, invoke, builtin, Sem.run_bind, Sem.run_pure, Result.andThen_ok, List.map_toArray, List.map_cons, List.map_nil, hs, hx, h1]
  refine hK _ _ (h v' w' h2 ((hbel.alloc (by omega) _).grown h3 (by simp; omega) fun k hk => ?_) ?_ (fun k hk hne => ?_) fun k hk => ?_)
  · have := (hown.lt hk).1; omega
  · have := h3.size; simp at this; omega
  · exact (h3.block k (by simp; omega) (fun e => hne e.symm)).trans (Below.heap_alloc _ _ _ hk)
  · rcases h4 k hk with h | h
    · exact .inl h
    · exact .inr (by simp at h; omega)
/-- the parts of a text between blanks -/
def partsB (s : ByteArray) : List ByteArray := Lib.splitB ⟨#[32]⟩ 0 (Lib.countB s ⟨#[32]⟩) s
def nzB (x : ByteArray) : Bool := decide (x ≠ ⟨#[]⟩)
/-- the words of a text -/
def wordsB (s : ByteArray) : List ByteArray := (partsB s).filter nzB
theorem partsB_length (s : ByteArray) : (partsB s).length = Lib.countB s ⟨#[32]⟩ + 1 := Lib.splitB_all _ (by decide) 0 _ s rfl
theorem partsB_le (s : ByteArray) : (partsB s).length ≤ s.size + 1 := by
  rw [partsB_length]
  have := Lib.countB_le ⟨#[32]⟩ (by decide) s.size s (Nat.le_refl _)
  omega
def strB (xs : List ByteArray) : List Value := xs.map Value.string
set_option maxHeartbeats 4000000 in
set_option maxRecDepth 100000 in
theorem splitWords_any (s : ByteArray) (w : World) (hs : s.size ≤ 1048576) (hC : TxtC w) :
    Calls Tryz.prog 37 #[.string s] w fun e w' => ∃ u, e = .returned u ∧ OwnV w.heap.size w' 9 u (strB (wordsB s)) ∧ Below w.heap.size w w' := by
  obtain ⟨m, hm⟩ := hC
  obtain ⟨E1, hE1⟩ : ∃ E, E = w.alloc (.cells #[] 9) := ⟨_, rfl⟩
  have hb1 : Below w.heap.size w E1 := by rw [hE1]; exact (Below.refl _ _).alloc (Nat.le_refl _) _
  have O1 : Hid (OwnV w.heap.size E1 9 (.slice (some ⟨w.heap.size, 0, none⟩) 0 0) []) := by
    have h := World.ownsRow_lit (base := w.heap.size) (e := 9) (size := 1) w #[] 0 (Nat.le_refl _) (by simp [maxLen]) (by simp)
    rw [hE1]
    simpa [Hid, OwnV] using h
  have hm1 := (hb1.cell (World.block_lt_of_cell? w _ hm)).trans hm
  obtain ⟨g, hg⟩ : ∃ g, g = E1.heap.size := ⟨_, rfl⟩
  obtain ⟨P, hP⟩ : ∃ P, P = partsB s := ⟨_, rfl⟩
  have hPl : P.length ≤ 1048577 := by rw [hP]; have := partsB_le s; omega
  obtain ⟨E2, hE2⟩ : ∃ E, E = E1.alloc (.cells (P.map Value.string).toArray 9) := ⟨_, rfl⟩
  have hb12 : Below E1.heap.size E1 E2 := by rw [hE2]; exact (Below.refl _ _).alloc (Nat.le_refl _) _
  have SP : Hid (Calls Tryz.prog 60 #[.string s, .string ⟨#[32]⟩] E1 fun e w' => e = .returned (.slice (some ⟨g, 0, none⟩) P.length P.length) ∧ w' = E2) := by
    have h := Tryz.strings_Split s ⟨#[32]⟩ m E1 (by omega) hm1 (by decide)
    have e1 : Lib.splitB ⟨#[32]⟩ 0 (Lib.countB s ⟨#[32]⟩) s = P := hP.symm
    have e2 : Lib.countB s ⟨#[32]⟩ + 1 = P.length := by rw [hP, partsB_length]
    rw [e1, e2, ← hE2, ← hg] at h
    exact h
  have hsrc : Hid (E2.heap[g]? = some (.cells (P.map Value.string).toArray 9 (0, 0))) := by
    rw [hE2, hg]; exact heap_alloc_new E1 _
  have hgw : w.heap.size < g := by rw [hg, hE1]; simp
  have HW : Hid (wordsB s = P.filter nzB) := by rw [hP]; rfl
  have hb2 : Below w.heap.size w E2 := hb1.trans (hb12.mono hb1.size)
  have O2 : Hid (OwnV w.heap.size E2 9 (.slice (some ⟨w.heap.size, 0, none⟩) 0 0) []) := OwnV.below O1.out hb12
  have HE1 := Lib.hid hE1
  have HB2 := Lib.hid hb2
  clear hE1 hg hP hE2 hb1 O1 hm hm1 hb12 hb2
  go_enter Tryz.func37, Tryz.ntmps37
  go_upto_region 2 with fail
  rw [← HE1.out]
  go_wp2_with (first | (go_at_call 60; refine SP.out.mono ?_; rintro e w' ⟨rfl, hw⟩; rw [hw]) | fail)
  go_loopw [3, 10] (fun v i wr => ∃ (k : Nat) (u : Value), k ≤ P.length ∧ v = u ∧ i = .int .i64 (k : Int) ∧ Hid (OwnV w.heap.size wr 9 u (strB ((P.take k).filter nzB))) ∧ Hid (u.ownBlock ≠ some g) ∧ Hid (wr.heap[g]? = some (.cells (P.map Value.string).toArray 9 (0, 0))) ∧ Below w.heap.size w wr) (fun _ i _ => ((P.length : Int) - intOf i).toNat)
  case atStart => exact ⟨0, _, Nat.zero_le _, rfl, rfl, O2, by unfold Hid; intro h; simp [Value.ownBlock] at h; omega, hsrc, HB2.out⟩
  case round =>
    obtain ⟨k, v, hk, hv, rfl, HK, HNE, HSRC, hbel⟩ := hrel
    obtain rfl := hv.symm
    clear hsrc O2 HB2
    have hsz := hbel.size
    by_cases hkt : k < P.length
    · have hck : wr.cell? ⟨g, k, none⟩ = some (.string P[k]) := by
        rw [cell_of_row wr g k _ _ _ HSRC.out]
        simp [hkt]
      have hgl : g < wr.heap.size := (Array.getElem?_eq_some_iff.1 HSRC.out).1
      by_cases hz : P[k] = ⟨#[]⟩
      · have HM : Hid ((P.take (k + 1)).filter nzB = (P.take k).filter nzB) := by
          unfold Hid
          rw [List.take_succ_eq_append_getElem hkt, List.filter_append]
          have : nzB P[k] = false := by rw [hz]; rfl
          simp [this]
        rw [hz] at hck
        clear hz
        go_wp2_with fail
        go_roundw
        case rel => exact ⟨k + 1, _, by omega, rfl, by go_num, by unfold Hid; rw [HM.out]; exact HK.out, HNE, HSRC, hbel⟩
        case measure => simp [intOf] <;> omega
      · have HM : Hid (strB ((P.take (k + 1)).filter nzB) = strB ((P.take k).filter nzB) ++ [.string P[k]]) := by
          unfold Hid strB
          rw [List.take_succ_eq_append_getElem hkt, List.filter_append, List.map_append]
          have : nzB P[k] = true := by simp [nzB, hz]
          simp [this]
        have hqe : (P[k]).toList.isEmpty = false := by
          rw [List.isEmpty_eq_false_iff]
          intro h
          exact hz (str_ext (by rw [h, ByteArray.toList_eq]))
        have hLl : Hid ((strB ((P.take k).filter nzB)).length < 1099511627776) := by
          have := List.length_filter_le nzB (P.take k)
          unfold Hid strB
          simp at this ⊢
          omega
        generalize P[k] = x at hck hqe HM
        clear hz
        have hown1 := HK.out
        go_wp2_with (first
          | (at_builtin; refine wpList_append_strN rfl _ _ rfl rfl hown1 rfl hbel hLl.out hsz (Nat.le_refl _) ?_; intro v' w2 ho2 hb2 hz2 hk2 hn2)
          | fail)
        go_roundw
        case rel =>
          refine ⟨k + 1, _, by omega, rfl, by go_num, by unfold Hid; rw [HM.out]; exact ho2, ?_, ?_, hb2⟩
          · intro h
            rcases hn2 _ h with h' | h'
            · exact HNE.out h'
            · omega
          · exact (hk2 g hgl HNE.out).trans HSRC.out
        case measure => simp [intOf] <;> omega
    · obtain rfl : k = P.length := by omega
      go_wp2_with fail
      go_ret
      exact ⟨_, rfl, by rw [HW.out]; have := HK.out; rwa [List.take_length] at this, hbel⟩
def decsB (xs : List ByteArray) : Option (List Int) := xs.mapM fun x => readDec x.data.toList
theorem decsB_snoc (xs : List ByteArray) (x : ByteArray) : decsB (xs ++ [x]) = (decsB xs).bind fun ns => (readDec x.data.toList).bind fun n => some (ns ++ [n]) := by
  unfold decsB
  rw [List.mapM_append]
  cases xs.mapM (fun x => readDec x.data.toList) with
  | none => rfl
  | some ns => cases h : readDec x.data.toList <;> simp [h]
theorem decsB_none {xs ys : List ByteArray} (h : decsB xs = none) : decsB (xs ++ ys) = none := by
  unfold decsB at h ⊢
  rw [List.mapM_append, h]
  rfl
theorem decsB_len : ∀ (xs : List ByteArray) (ns : List Int), decsB xs = some ns → ns.length = xs.length := by
  intro xs
  induction xs with
  | nil => intro ns h; simp [decsB] at h; subst h; rfl
  | cons x xs ih =>
    intro ns h
    simp only [decsB, List.mapM_cons] at h
    cases hx : readDec x.data.toList with
    | none => rw [hx] at h; simp at h
    | some n =>
      rw [hx] at h
      cases hr : xs.mapM (fun x => readDec x.data.toList) with
      | none => rw [hr] at h; simp at h
      | some ms =>
        rw [hr] at h
        simp at h
        subst h
        simp [ih ms hr]
/-- numbers were read, or none -/
def RetNums (w : World) (xs : List ByteArray) (e : Ending) (w' : World) : Prop :=
  Below w.heap.size w w' ∧ match decsB xs with
    | some ns => ∃ u, e = .returned (.tuple #[u, .bool true]) ∧ OwnI w.heap.size w' u ns
    | none => e = .returned (.tuple #[.slice none 0 0, .bool false])
set_option maxHeartbeats 4000000 in
set_option maxRecDepth 100000 in
theorem readNumbers_any {p : Option Addr} {c : Nat} {xs : List ByteArray} (w : World) (h : RdV w p (strB xs)) (hn : xs.length ≤ 1048577) (hs : ∀ x ∈ xs, x.size ≤ 281474976710656) (hT : TxtT w) (hE : TxtE w) :
    Calls Tryz.prog 38 #[.slice p xs.length c] w (RetNums w xs) := by
  have HN : Hid (∀ k, k ≤ xs.length → decsB (xs.take k) = none → decsB xs = none) := fun k hk hd => by
    have := decsB_none (ys := xs.drop k) hd
    rwa [List.take_append_drop] at this
  have RD : Hid (∀ W k, (hk : k < xs.length) → TxtT W → TxtE W → Calls Tryz.prog 61 #[.string xs[k]] W fun e w' => e = .returned (decV xs[k].data.toList) ∧ Below W.heap.size W w') := fun W k hk h1 h2 => readDecimal_any _ (hs _ (List.getElem_mem hk)) W h1 h2
  have O0 : Hid (OwnI w.heap.size (w.alloc (.cells #[] 2)) (.slice (some ⟨w.heap.size, 0, none⟩) 0 0) []) := OwnI.lit w [] (Nat.le_refl _) (by simp [maxLen])
  have HR := Lib.hid h
  have HT := Lib.hid hT
  have HEE := Lib.hid hE
  have HRes : Hid (∀ e w', (Below w.heap.size w w' ∧ match decsB xs with
    | some ns => ∃ u, e = .returned (.tuple #[u, .bool true]) ∧ OwnI w.heap.size w' u ns
    | none => e = .returned (.tuple #[.slice none 0 0, .bool false])) → RetNums w xs e w') := fun e w' h => h
  clear h hT hE hs
  generalize RetNums w xs = RR at *
  go_enter Tryz.func38, Tryz.ntmps38
  go_wp2_with fail
  go_loopw [4, 12] (fun v i wr => ∃ (k : Nat) (u : Value) (ns : List Int), k ≤ xs.length ∧ v = u ∧ i = .int .i64 (k : Int) ∧ Hid (decsB (xs.take k) = some ns) ∧ Hid (OwnI w.heap.size wr u ns) ∧ Below w.heap.size w wr) (fun _ i _ => ((xs.length : Int) - intOf i).toNat)
  case atStart => exact ⟨0, _, [], Nat.zero_le _, rfl, rfl, by simp [Hid, decsB], O0, (Below.refl _ _).alloc (Nat.le_refl _) _⟩
  case round =>
    obtain ⟨k, v, ns, hk, hv, rfl, HD, HO, hbel⟩ := hrel
    obtain rfl := hv.symm
    clear O0
    have hsz := hbel.size
    by_cases hkt : k < xs.length
    · have hr : RdV wr p (strB xs) := HR.out.keep fun b o e hb => hbel.block b hb
      have hkl : k < (strB xs).length := by simpa [strB] using hkt
      obtain ⟨b, o, rfl, hb, hc⟩ := hr.pos hkl
      have hck : wr.cell? ⟨b, o + k, none⟩ = some (.string xs[k]) := by
        rw [hc k hkl]
        simp [strB]
      have hblt := World.block_lt_of_cell? _ _ hck
      have DK := Lib.hid (RD.out wr k hkt (HT.out.below hbel) (HEE.out.below hbel))
      have hlen := decsB_len _ _ HD.out
      have HS : Hid (decsB (xs.take (k + 1)) = (readDec xs[k].data.toList).bind fun n => some (ns ++ [n])) := by
        unfold Hid
        rw [List.take_succ_eq_append_getElem hkt, decsB_snoc, HD.out]
        rfl
      clear hc hr
      cases hx : readDec xs[k].data.toList with
      | none =>
        rw [decV_none hx] at DK
        rw [hx] at HS
        have hnone := HN.out (k + 1) (by omega) HS.out
        generalize xs[k] = x at hck DK
        clear hx hlen
        go_wp2_with (first | (go_at_call 61; refine DK.out.mono ?_; rintro e w1 ⟨rfl, hB1⟩) | fail)
        refine HRes.out _ _ ⟨hbel.trans (hB1.mono hsz), ?_⟩
        rw [hnone]
        rfl
      | some n =>
        rw [decV_some hx] at DK
        rw [hx] at HS
        have HS' : Hid (decsB (xs.take (k + 1)) = some (ns ++ [n])) := HS.out
        have hLn : Hid (ns.length < 17592186044415) := by rw [hlen]; unfold Hid; simp; omega
        generalize xs[k] = x at hck DK
        clear hx hlen HS
        go_wp2_with (first
          | (go_at_call 61; refine DK.out.mono ?_; rintro e w1 ⟨rfl, hB1⟩; have hown1 := OwnI.below HO.out hB1; have hb1 : Below w.heap.size w w1 := hbel.trans (hB1.mono hsz); have hz1 := hb1.size)
          | (at_builtin; refine wpList_append_one rfl _ _ rfl rfl hown1 rfl hb1 hLn.out hz1 (Nat.le_refl _) ?_; intro v' w2 ho2 hb2 hz2 hk2)
          | fail)
        go_roundw
        case rel => exact ⟨k + 1, _, _, by omega, rfl, by go_num, HS', ho2, hb2⟩
        case measure => simp [intOf] <;> omega
    · obtain rfl : k = xs.length := by omega
      have hd : decsB xs = some ns := by have := HD.out; rwa [List.take_length] at this
      have HDD := Lib.hid hd
      clear hd
      go_wp2_with fail
      refine HRes.out _ _ ⟨hbel, ?_⟩
      rw [HDD.out]
      exact ⟨_, rfl, HO.out⟩
end Go.Proofs.YtljlcbichimhaaaGreatDoor
