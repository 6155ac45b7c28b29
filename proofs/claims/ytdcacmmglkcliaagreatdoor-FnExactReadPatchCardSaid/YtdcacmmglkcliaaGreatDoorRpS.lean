/-
  Reading a patch, on the reference's side.
-/
import Derived.Test.YtdcacmmglkcliaaGreatDoorRpM
import Derived.Test.YtdcacmmglkcliaaGreatDoorTxtH
import Derived.Test.YtdcacmmglkcliaaGreatDoorPB
namespace Go.Proofs.YtdcacmmglkcliaaGreatDoor
open Go.ChangeShapes Go.WideShapes Go.ChangeAt Go.RowKit Go.Sort
set_option linter.unusedVariables false
set_option linter.unusedSimpArgs false

set_option maxHeartbeats 4000000 in
set_option maxRecDepth 100000 in
theorem l01SplitN_any (s : ByteArray) (w : World) (hs : s.size ≤ 1048576) :
    Calls Tryz.prog 46 #[.string s, .int .u8 10] w fun e w' => ∃ u, e = .returned u ∧ OwnV w.heap.size w' 9 u (strB (linesB s)) ∧ Below w.heap.size w w' := by
  obtain ⟨E1, hE1⟩ : ∃ E, E = w.alloc (.cells #[] 9) := ⟨_, rfl⟩
  have hb1 : Below w.heap.size w E1 := by rw [hE1]; exact (Below.refl _ _).alloc (Nat.le_refl _) _
  have O1 : Hid (OwnV w.heap.size E1 9 (.slice (some ⟨w.heap.size, 0, none⟩) 0 0) (strB (([] : List (List UInt8)).map bs))) := by
    have h := World.ownsRow_lit (base := w.heap.size) (e := 9) (size := 1) w #[] 0 (Nat.le_refl _) (by simp [maxLen]) (by simp)
    rw [hE1]
    simpa [Hid, OwnV, strB] using h
  obtain ⟨l, hl⟩ : ∃ l, l = s.data.toList := ⟨_, rfl⟩
  have hll : l.length = s.size := by rw [hl]; exact Array.length_toList
  have HP : Hid (linesB s = (cutC 10 [] l).map bs) := by rw [hl]; rfl
  have HX : Hid (∀ f k, s.extract f k = bs ((l.drop f).take (k - f))) := fun f k => by rw [hl]; exact extract_bs s f k
  have HG : Hid (∀ k, (h : k < s.size) → ∃ h', ((l[k]'h').toNat : Int) = bt s k) := fun k h => by
    subst hl
    obtain ⟨h', e⟩ := list_get h
    exact ⟨h', by rw [e]; exact get_bt s k h⟩
  have hbt := get_bt s
  have HLL := Lib.hid hll
  have HE1 := Lib.hid hE1
  clear hE1 hl hll
  go_enter Tryz.func46, Tryz.ntmps46
  go_upto_region 2 with fail
  rw [← HE1.out]
  go_wp2_with fail
  go_loopw [5, 6, 7] (fun v f i wr => ∃ (k j : Nat) (u : Value) (O : List (List UInt8)), k ≤ s.size ∧ j ≤ k ∧ v = u ∧ f = .int .i64 (j : Int) ∧ i = .int .i64 (k : Int) ∧ Hid (O.length ≤ k) ∧ Hid (cutC 10 [] l = O ++ cutC 10 ((l.drop j).take (k - j)) (l.drop k)) ∧ Hid (OwnV w.heap.size wr 9 u (strB (O.map bs))) ∧ Below w.heap.size w wr) (fun _ _ i _ => ((s.size : Int) - intOf i).toNat)
  case atStart => exact ⟨0, 0, _, [], Nat.zero_le _, Nat.le_refl _, rfl, rfl, rfl, by simp [Hid], by simp [Hid], O1, hb1⟩
  case round =>
    obtain ⟨k, j, v, O, hk, hj, hv, rfl, rfl, HOL, HC, HO, hbel⟩ := hrel
    obtain rfl := hv.symm
    clear O1 hb1
    have hsz := hbel.size
    have HLn : Hid ((strB (O.map bs)).length < 1099511627776) := by
      have := HOL.out
      unfold Hid strB
      simp
      omega
    have hown1 := HO.out
    by_cases hkt : k < s.size
    · obtain ⟨hkl, hkb⟩ := HG.out k hkt
      have hdk : l.drop k = l[k] :: l.drop (k + 1) := List.drop_eq_getElem_cons hkl
      have htk : (l.drop j).take (k + 1 - j) = (l.drop j).take (k - j) ++ [l[k]] := by
        have e : k + 1 - j = k - j + 1 := by omega
        have h1 : k - j < (l.drop j).length := by rw [List.length_drop]; omega
        rw [e, List.take_succ_eq_append_getElem h1]
        congr 2
        rw [List.getElem_drop]
        congr 1
        omega
      by_cases hc : bt s k = 10
      · have hc' : l[k] = 10 := by
          apply UInt8.toNat_inj.1
          rw [hc] at hkb
          have : (10 : UInt8).toNat = 10 := rfl
          omega
        have HM : Hid (strB ((O ++ [(l.drop j).take (k - j)]).map bs) = strB (O.map bs) ++ [.string (s.extract j k)]) := by
          unfold Hid strB
          rw [HX.out]
          simp
        have HC2 : Hid (cutC 10 [] l = (O ++ [(l.drop j).take (k - j)]) ++ cutC 10 ((l.drop (k + 1)).take (k + 1 - (k + 1))) (l.drop (k + 1))) := by
          unfold Hid
          rw [HC.out, hdk, cutC, if_pos hc']
          simp
        have HXL : Hid (∀ q, (s.extract j k) = q → q = s.extract j k) := fun q h => h.symm
        clear hdk htk hkb hc'
        go_wp2_with (first
          | (at_builtin; refine wpList_append_strN rfl _ _ rfl rfl hown1 rfl hbel HLn.out hsz (Nat.le_refl _) ?_; intro v' w2 ho2 hb2 hz2 hk2 hn2)
          | fail)
        go_roundw
        case rel => exact ⟨k + 1, k + 1, _, _, by omega, Nat.le_refl _, rfl, by go_num, by go_num, by have := HOL.out; simp [Hid]; omega, HC2, by unfold Hid; rw [HM.out]; exact ho2, hb2⟩
        case measure => simp [intOf] <;> omega
      · have hc' : l[k] ≠ 10 := by
          intro e
          apply hc
          rw [← hkb, e]
          rfl
        have HC2 : Hid (cutC 10 [] l = O ++ cutC 10 ((l.drop j).take (k + 1 - j)) (l.drop (k + 1))) := by
          unfold Hid
          rw [HC.out, hdk, cutC, if_neg hc', htk]
        clear hdk htk hkb hc'
        go_wp2_with fail
        go_roundw
        case rel => exact ⟨k + 1, j, _, O, by omega, by omega, rfl, rfl, by go_num, by have := HOL.out; simp [Hid]; omega, HC2, HO, hbel⟩
        case measure => simp [intOf] <;> omega
    · obtain rfl : k = s.size := by omega
      have HM : Hid (strB (linesB s) = strB (O.map bs) ++ [.string (s.extract j s.size)]) := by
        unfold Hid strB
        rw [HP.out, HX.out, HC.out]
        have : l.drop s.size = [] := List.drop_eq_nil_of_le (by rw [HLL.out]; exact Nat.le_refl _)
        rw [this, cutC]
        simp
      go_wp2_with (first
        | (at_builtin; refine wpList_append_strN rfl _ _ rfl rfl hown1 rfl hbel HLn.out hsz (Nat.le_refl _) ?_; intro v' w2 ho2 hb2 hz2 hk2 hn2)
        | fail)
      go_ret
      exact ⟨_, rfl, by rw [HM.out]; exact ho2, hb2⟩
/-- numbers were read behind the first word, or none -/
def RetNumS (w : World) (xs : List ByteArray) (e : Ending) (w' : World) : Prop :=
  Below w.heap.size w w' ∧ match numsS xs with
    | some ns => ∃ u, e = .returned (.tuple #[u, .bool true]) ∧ OwnI w.heap.size w' u ns
    | none => e = .returned (.tuple #[.slice none 0 0, .bool false])
theorem numsS_stop {xs : List ByteArray} {k : Nat} (hk : k < xs.length) (h1 : 1 ≤ k) (h : readDec xs[k].data.toList = none) : numsS xs = none := by
  unfold numsS
  split
  · rfl
  · have e : xs.tail = (xs.tail.take (k - 1)) ++ xs.tail.drop (k - 1) := (List.take_append_drop _ _).symm
    have hl : k - 1 < xs.tail.length := by rw [List.length_tail]; omega
    have hd : xs.tail.take (k - 1 + 1) = xs.tail.take (k - 1) ++ [xs[k]] := by
      rw [List.take_succ_eq_append_getElem hl]
      congr 2
      rw [List.getElem_tail]
      congr 1; omega
    have : decsB (xs.tail.take (k - 1 + 1)) = none := by
      rw [hd, decsB_snoc, h]
      cases decsB (xs.tail.take (k - 1)) <;> rfl
    have h2 := decsB_none (ys := xs.tail.drop (k - 1 + 1)) this
    rwa [List.take_append_drop] at h2
set_option maxHeartbeats 4000000 in
set_option maxRecDepth 100000 in
theorem l07Numbers_any {p : Option Addr} {c : Nat} {xs : List ByteArray} (w : World) (h : RdV w p (strB xs)) (hn : xs.length ≤ 1048577) (h1 : 1 ≤ xs.length) (hs : ∀ x ∈ xs, x.size ≤ 1048576) :
    Calls Tryz.prog 47 #[.slice p xs.length c] w (RetNumS w xs) := by
  have LN : Hid (∀ W k, (hk : k < xs.length) → Calls Tryz.prog 89 #[.string xs[k]] W fun e w' => e = .returned (decV xs[k].data.toList) ∧ Below W.heap.size W w') := fun W k hk => l01Number_any _ (hs _ (List.getElem_mem hk)) W
  have HST : Hid (∀ k, (hk : k < xs.length) → 1 ≤ k → readDec xs[k].data.toList = none → numsS xs = none) := fun k hk h1 hd => numsS_stop hk h1 hd
  have HBG : Hid (1 < xs.length → 32 < xs.length → numsS xs = none) := fun h1 h2 => by unfold numsS; rw [if_pos ⟨h1, h2⟩]
  have HEN : Hid (xs.length ≤ 32 → numsS xs = decsB xs.tail) := fun h => by unfold numsS; rw [if_neg (by omega)]
  have HE1 : Hid (xs.length = 1 → numsS xs = some []) := fun h => by
    unfold numsS; rw [if_neg (by omega)]
    match xs, h with
    | [x], _ => rfl
  have HSN : Hid (∀ k, (hk : k < xs.length) → 1 ≤ k → xs.tail.take k = xs.tail.take (k - 1) ++ [xs[k]]) := fun k hk h1 => by
    have hl : k - 1 < xs.tail.length := by rw [List.length_tail]; omega
    have := List.take_succ_eq_append_getElem hl
    rw [show k - 1 + 1 = k by omega] at this
    rw [this]
    congr 2
    rw [List.getElem_tail]
    congr 1; omega
  have HTL : Hid (xs.tail.take (xs.length - 1) = xs.tail) := by unfold Hid; rw [List.take_of_length_le (by rw [List.length_tail]; exact Nat.le_refl _)]
  have O0 : Hid (OwnI w.heap.size (w.alloc (.cells #[] 2)) (.slice (some ⟨w.heap.size, 0, none⟩) 0 0) []) := OwnI.lit w [] (Nat.le_refl _) (by simp [maxLen])
  have hB0 : Below w.heap.size w (w.alloc (.cells #[] 2)) := (Below.refl _ _).alloc (Nat.le_refl _) _
  have HR := Lib.hid h
  have HN : Hid (∀ w', Below w.heap.size w w' → numsS xs = none → RetNumS w xs (.returned (.tuple #[.slice none 0 0, .bool false])) w') := fun w' hb hn => ⟨hb, by rw [hn]⟩
  have HS : Hid (∀ w' u ns, Below w.heap.size w w' → numsS xs = some ns → OwnI w.heap.size w' u ns → RetNumS w xs (.returned (.tuple #[u, .bool true])) w') := fun w' u ns hb hn ho => ⟨hb, by rw [hn]; exact ⟨u, rfl, ho⟩⟩
  clear h hs
  generalize RetNumS w xs = RR at *
  go_enter Tryz.func47, Tryz.ntmps47
  go_wp2_with fail
  go_loopw [4, 5] (fun v i wr => ∃ (k : Nat) (ns : List Int), 1 ≤ k ∧ k ≤ xs.length ∧ i = .int .i64 (k : Int) ∧ Hid (decsB (xs.tail.take (k - 1)) = some ns) ∧ OwnI w.heap.size wr v ns ∧ Below w.heap.size w wr ∧ ns.length ≤ k ∧ (k = 1 ∨ xs.length ≤ 32)) (fun _ i _ => xs.length - (intOf i).toNat)
  case atStart => exact ⟨1, [], Nat.le_refl _, h1, rfl, by simp [Hid, decsB], O0.out, hB0, by simp, .inl rfl⟩
  case round =>
    obtain ⟨k, ns, hk1, hk, rfl, HD, oo, hb, hl, h32⟩ := hrel
    obtain ⟨wi, rfl⟩ : ∃ wi : World, wi = wr := ⟨_, rfl⟩
    clear O0 hB0
    have hz := hb.size
    by_cases hlt : k < xs.length
    · obtain ⟨b, o, e1, hc⟩ : ∃ b o, p = some ⟨b, o, none⟩ ∧ w.cell? ⟨b, o + k, none⟩ = some (.string xs[k]) := by
        rcases HR.out.cells with h0 | ⟨b, o, e1, hc⟩
        · have : (strB xs).length = 0 := by rw [h0]; rfl
          rw [strB, List.length_map] at this; omega
        · exact ⟨b, o, e1, by rw [hc k (by rw [strB, List.length_map]; exact hlt)]; simp [strB]⟩
      subst e1
      have hck : wi.cell? ⟨b, o + k, none⟩ = some (.string xs[k]) := (hb.cell (World.block_lt_of_cell? w _ hc)).trans hc
      have L1 := Lib.hid (fun W => LN.out W k hlt)
      have HSk := Lib.hid (HST.out k hlt hk1)
      have HSnk := Lib.hid (HSN.out k hlt hk1)
      clear hc
      generalize xs[k] = x at hck L1 HSk HSnk
      cases hr : readDec x.data.toList with
      | none =>
        have L2 : Hid (∀ W, Calls Tryz.prog 89 #[.string x] W fun e w' => e = .returned (.tuple #[.int .i64 0, .bool false]) ∧ Below W.heap.size W w') := fun W => by rw [← decV_none hr]; exact L1.out W
        have HNO := Lib.hid (HSk.out hr)
        clear hr L1
        go_wp2_with (first | (go_at_call 89; refine (L2.out _).mono ?_; rintro e w1 ⟨rfl, hb1⟩) | fail)
        exact HN.out _ (hb.trans (hb1.mono hz)) HNO.out
      | some n =>
        have L2 : Hid (∀ W, Calls Tryz.prog 89 #[.string x] W fun e w' => e = .returned (.tuple #[.int .i64 n, .bool true]) ∧ Below W.heap.size W w') := fun W => by rw [← decV_some hr]; exact L1.out W
        have HD2 : Hid (decsB (xs.tail.take k) = some (ns ++ [n])) := by unfold Hid; rw [HSnk.out, decsB_snoc, HD.out]; simp [hr]
        clear hr L1
        by_cases h33 : 32 < xs.length
        · have HNO := Lib.hid (HBG.out (by omega) h33)
          go_wp2_with (first | (go_at_call 89; refine (L2.out _).mono ?_; rintro e w1 ⟨rfl, hb1⟩) | fail)
          exact HN.out _ (hb.trans (hb1.mono hz)) HNO.out
        · have HOO := Lib.hid oo
          clear oo
          go_upto_region 8 with (first | (go_at_call 89; refine (L2.out _).mono ?_; rintro e w1 ⟨rfl, hb1⟩) | fail)
          have oo1 := HOO.out.below hb1
          have hbw := hb.trans (hb1.mono hz)
          have hz1 := hbw.size
          go_wp2_with (first | (at_builtin; refine wpList_append_one rfl _ _ rfl rfl oo1 rfl hbw (by omega) hz1 (Nat.le_refl _) ?_; intro v' w4 hown4 hb4 hz4 hk4) | fail)
          have HO4 := Lib.hid hown4
          clear hk4 hown4 oo1
          go_roundw
          case rel => exact ⟨k + 1, ns ++ [n], by omega, by omega, by go_num, by unfold Hid; rw [Nat.add_sub_cancel]; exact HD2.out, HO4.out, hb4, by simp; omega, .inr (by omega)⟩
          case measure => simp [intOf] <;> omega
    · obtain rfl : k = xs.length := by omega
      have HSO : Hid (numsS xs = some ns) := by
        unfold Hid
        rcases h32 with h | h
        · rw [HE1.out h]
          have := HD.out
          rw [h] at this
          simpa [decsB] using this
        · rw [HEN.out h, ← HTL.out]; exact HD.out
      have HOO := Lib.hid oo
      clear oo
      go_wp2_with fail
      exact HS.out _ _ _ hb HSO.out HOO.out
theorem wpList_append_valG {ops : Array Oper} {rest : List Oper} {o : Oper} {a : Act} {Q : Exit → Act → World → Prop} {w : World} {u : Value} {E T : Nat} (hgd : o.guard = none) (s x : Operand)
    (ho : o.op = .call { callee := .builtin .append, args := #[s, x], argTypes := #[T, T] }) (bytes : Nat) (z : Value) (hT : Tryz.prog.underlying T = some (.slice E)) (hinfo : (Tryz.prog.info? E).map (fun i => (i.zero, i.size, i.bytes)) = some (some z, 1, bytes)) (hz : z.cells.size = 1) (hby : bytes ≤ 64)
    {B : Nat} {v : Value} {L : List Value} (hs : a.eval s = v) (hown : OwnV B w E v L) (hx : a.eval x = .slice (some ⟨w.heap.size, 0, none⟩) 1 1) (h1 : u.oneCell' = true) (hlen : L.length < 1099511627776) (hB : B ≤ w.heap.size)
    (h : ∀ v' w', OwnV B w' E v' (L ++ [u]) → w.grownBy w' v.ownBlock → wpList Tryz.prog ops Q rest (a.put o.dst v') w') : wpList Tryz.prog ops Q (o :: rest) a (w.alloc (.cells #[u] E)) := by
  refine wpList_plain hgd fun K hK => ?_
  obtain ⟨v', w', e1, e2, e3⟩ := run_append_val w o.type E T bytes z hT hinfo hz hby hown h1 hlen hB
  unfold Oper.wp execOp
  simp only [ho, resolve, invoke, builtin, Sem.run_bind, Sem.run_pure, Result.andThen_ok, List.map_toArray, List.map_cons, List.map_nil, hs, hx, e1]
  refine hK _ _ (h v' w' e2 ⟨e3.os, e3.tape, e3.output, by have := e3.size; simp at this; omega, fun k hk hne => ?_⟩)
  exact (e3.block k (by simp; omega) hne).trans (Below.heap_alloc _ _ _ hk)
theorem PB.inp {B : Nat} {w0 w : World} {s : Nat} {inp : Int} {v1 v2 v3 : Value} {ts : List (List Int)} {ns : List NodeD} {os : List Int} {L1 L : List Value} (h : PB B w0 w s inp v1 v2 v3 ts ns os L1 L) (n : Int) :
    PB B w0 (w.setCell ⟨s, 0, none⟩ (.int .i64 n)) s n v1 v2 v3 ts ns os L1 L :=
  ⟨h.own.setBox h.out patchT 0 _, by simpa using h.out.set 0 (.int .i64 n), h.bel.setCell (by simpa using h.hs) _, h.hB, h.hs⟩
theorem PB.ppatch {B : Nat} {w0 w : World} {s : Nat} {x : PatchD} {v1 v2 v3 : Value} {L1 L : List Value} (h : PB B w0 w s x.inputs v1 v2 v3 x.tables x.nodes x.outputs L1 L) : PPatch w s x := by
  obtain ⟨p1, c1, p2, c2, p3, c3, e, r1, r2, r3⟩ := (h.own.patch x.inputs).1.rd
  simp only [Value.agg.injEq, Array.mk.injEq, List.cons.injEq, and_true, true_and] at e
  obtain ⟨rfl, rfl, rfl⟩ := e
  exact ⟨p1, c1, p2, c2, p3, c3, h.out, r1, r2, r3⟩
def patchRd (s : ByteArray) : PatchD := (readPI s).getD zP
def okRdP (s : ByteArray) : Bool := (readPI s).isSome
/-- the patch with a text, if there is one -/
def RetPt (w : World) (s : ByteArray) (e : Ending) (w' : World) : Prop := ∃ u L, e = .returned (.tuple #[u, .bool (okRdP s)]) ∧ OwnPatch w.heap.size w' u (patchRd s) L ∧ Dis L ∧ Below w.heap.size w w'
theorem retPt_none {w w' : World} {s : ByteArray} (h : readPI s = none) (hb : Below w.heap.size w w') : RetPt w s (.returned (.tuple #[.agg #[.int .i64 0, .slice none 0 0, .slice none 0 0, .slice none 0 0], .bool false])) w' := by
  have o := ((OwnP.nil w (OwnI.nil w.heap.size w)).below hb).patch 0
  refine ⟨_, _, by unfold okRdP; rw [h]; rfl, ?_, o.2, hb⟩
  unfold patchRd; rw [h]
  exact o.1
theorem retPt_some {w w' : World} {s : ByteArray} {x : PatchD} {v1 v2 v3 : Value} {L1 L : List Value} (h : readPI s = some x) (ho : OwnP w.heap.size w' v1 v2 v3 x.tables x.nodes x.outputs L1 L) (hb : Below w.heap.size w w') :
    RetPt w s (.returned (.tuple #[.agg #[.int .i64 x.inputs, v1, v2, v3], .bool true])) w' := by
  have o := ho.patch x.inputs
  refine ⟨_, _, by unfold okRdP; rw [h]; rfl, ?_, o.2, hb⟩
  unfold patchRd; rw [h]
  exact o.1
end Go.Proofs.YtdcacmmglkcliaaGreatDoor
