/-
  The reference's decimals: l01Dec writes the same numeral; l03Text writes numbers with blanks between them.
-/
import Derived.Test.YtdcacmmglkcliaaGreatDoorTxtS
import Derived.Laws.BytesString
namespace Go.Proofs.YtdcacmmglkcliaaGreatDoor
open Go.ChangeShapes Go.WideShapes Go.ChangeAt Go.RowKit Go.Sort
set_option linter.unusedVariables false

/-- append of a slice's values to a slice of the call's own -/
theorem wpList_append_srcV {ops : Array Oper} {rest : List Oper} {o : Oper} {a : Act} {Q : Exit → Act → World → Prop} {w : World} {E T : Nat} (hgd : o.guard = none) (s x : Operand)
    (ho : o.op = .call { callee := .builtin .append, args := #[s, x], argTypes := #[T, T] }) (bytes : Nat) (z : Value) (hT : Tryz.prog.underlying T = some (.slice E)) (hinfo : (Tryz.prog.info? E).map (fun i => (i.zero, i.size, i.bytes)) = some (some z, 1, bytes)) (hz : z.cells.size = 1) (hby : bytes ≤ 64)
    {B B0 : Nat} {w0 : World} {v : Value} {L us : List Value} {b o' c : Nat} (hs : a.eval s = v) (hown : OwnV B w E v L) (hx : a.eval x = .slice (some ⟨b, o', none⟩) us.length c) (hr : ∀ i, (h : i < us.length) → w.cell? ⟨b, o' + i, none⟩ = some us[i]) (h1 : ∀ u ∈ us, u.oneCell' = true) (hbel : Below B0 w0 w) (hlen : L.length + us.length < 1099511627776) (hB : B ≤ w.heap.size) (hB0 : B0 ≤ B)
    (h : ∀ v' w', OwnV B w' E v' (L ++ us) → Below B0 w0 w' → w.heap.size ≤ w'.heap.size → (∀ k, k < w.heap.size → v.ownBlock ≠ some k → w'.heap[k]? = w.heap[k]?) → wpList Tryz.prog ops Q rest (a.put o.dst v') w') : wpList Tryz.prog ops Q (o :: rest) a w := by
  refine wpList_plain hgd fun K hK => ?_
  obtain ⟨i0, hi, hz0, hz1, hz2⟩ := info_parts hinfo
  obtain ⟨v', w', e1, e2, e3, _⟩ := run_append_own (P := Tryz.prog) w B T o.type E i0 z 1 bytes hT hi hz0 hz1 hz2 hz (by decide) v L.length L hown ⟨b, o', none⟩ us.length c us (by simp)
    (by
      intro j u hu
      obtain ⟨hjl, hjy⟩ := List.getElem?_eq_some_iff.1 hu
      rw [Addr.add_lit, hr j hjl, hjy])
    h1 (by simp only [maxLen]; omega)
    (by have : (L.length + us.length) * bytes ≤ 1099511627776 * 64 := Nat.mul_le_mul (by omega) hby
        omega) hB
  unfold Oper.wp execOp
  simp only [ho, resolve, invoke, builtin, Sem.run_bind, Sem.run_pure, Result.andThen_ok, List.map_toArray, List.map_cons, List.map_nil, hs, hx, e1]
  refine hK _ _ (h v' w' (by simpa [OwnV] using e2) (hbel.grown e3 (by omega) fun k hk => ?_) e3.size fun k hk hne => ?_)
  · have := (hown.lt hk).1; omega
  · exact e3.block k hk (fun e => hne e.symm)
/-- bytes as values -/
def byteV (l : List UInt8) : List Value := l.map fun b => Value.int .u8 (b.toNat : Int)
theorem foldl_push : ∀ (l : List UInt8) (s : ByteArray), ((l.map fun b => (b.toNat : Int)).foldl (fun r n => r.push (UInt8.ofNat n.toNat)) s).data.toList = s.data.toList ++ l
  | [], s => by simp
  | b :: l, s => by
    rw [List.map_cons, List.foldl_cons, foldl_push l]
    simp
/-- a row of bytes, as a text -/
theorem conv_bytes {B : Nat} {w : World} {v : Value} {l : List UInt8} (h : OwnV B w 5 v (byteV l)) (hl : l ≠ []) :
    (convert 22 9 v).run Tryz.prog w = .ok (.string (bs l)) w := by
  rcases OwnV.cases h with ⟨rfl, h0⟩ | ⟨g, cap, rfl, hB, hg, ⟨cur, hcur⟩, hr⟩
  · exact absurd (by simpa [byteV] using h0) hl
  · rw [run_convert_bytes_string w _ _ 5 _ _ _ Tryz.underlying22 Tryz.underlying5 Tryz.underlying9, run_bytesToString w _ _ _ (l.map fun b => (b.toNat : Int))]
    · congr 2
      have := foldl_push l ByteArray.empty
      rw [show ByteArray.empty.data.toList = [] from rfl, List.nil_append] at this
      unfold bs
      apply ByteArray.ext
      exact Array.toList_inj.1 (by rw [this])
    · have e : (l.map fun b => (b.toNat : Int)).map (Value.int .u8) = byteV l := by simp [byteV]
      rw [e]
      refine run_loadCells_list w ⟨g, 0, none⟩ (byteV l) ?_
      · intro j v hv
        obtain ⟨hj, rfl⟩ := List.getElem?_eq_some_iff.1 hv
        rcases hr.cells with h0 | ⟨b, o, e1, hc⟩
        · rw [h0] at hj; simp at hj
        · simp only [Option.some.injEq, Addr.mk.injEq, and_true] at e1
          obtain ⟨rfl, rfl⟩ := e1
          rw [Addr.add_lit, hc j hj]
/-- a number's digits, without those of 0 -/
def full (n : Int) : List UInt8 := if n = 0 then [] else Lib.decDigits n.natAbs
theorem full_step {k : Int} (h : k ≠ 0) : full k = full (k.tdiv 10) ++ [UInt8.ofNat (48 + k.natAbs % 10)] := by
  have hq : (k.tdiv 10).natAbs = k.natAbs / 10 := Int.natAbs_tdiv k 10
  unfold full
  rw [if_neg h, Lib.decDigits]
  by_cases h10 : k.natAbs < 10
  · rw [dif_pos h10, if_pos (by omega), Nat.mod_eq_of_lt h10]
    rfl
  · rw [dif_neg h10, if_neg (by omega), hq]
theorem full_itoa (n : Int) : Lib.itoa n = if n = 0 then [48] else if n < 0 then 45 :: full n else full n := by
  unfold Lib.itoa full
  by_cases h : n = 0
  · subst h; rw [if_neg (by omega), if_pos rfl]; exact Lib.decDigits_one (by decide : 0 < 10)
  · rw [if_neg h, if_neg h]
    split
    · rfl
    · congr 1
      omega
theorem full_len {k : Int} (h : I64 k) : (full k).length ≤ 20 := by
  unfold full
  unfold I64 at h
  split
  · simp
  · rw [Lib.decDigits_length]
    exact Lib.nDigits_le20 _ (by omega)
set_option maxHeartbeats 4000000 in
set_option maxRecDepth 100000 in
theorem l01Dec_any (n : Int) (hn : I64 n) (w : World) :
    Calls Tryz.prog 94 #[.int .i64 n] w fun e w' => e = .returned (.string (bs (Lib.itoa n))) ∧ Below w.heap.size w w' := by
  have infoB : (Tryz.prog.info? 5).map (fun i => (i.zero, i.size, i.bytes)) = some (some (.int .u8 0), 1, 1) := by kernel_rfl
  have O0 : Hid (OwnV w.heap.size (w.alloc (.cells #[] 5)) 5 (.slice (some ⟨w.heap.size, 0, none⟩) 0 0) (byteV [])) := by
    have h := World.ownsRow_lit (base := w.heap.size) (e := 5) (size := 1) w #[] 0 (Nat.le_refl _) (by simp [maxLen]) (by simp)
    simpa [Hid, OwnV, byteV] using h
  have HN := Lib.hid hn
  clear hn
  go_enter Tryz.func94, Tryz.ntmps94
  go_wp2_with fail
  go_loopw [3, 4] (fun v i wr => ∃ (k : Int) (os : List UInt8) (g c : Nat), v = .slice (some ⟨g, 0, none⟩) os.length c ∧ i = .int .i64 k ∧ Hid (I64 k) ∧ Hid (full n = full k ++ os) ∧ Hid (OwnV w.heap.size wr 5 (.slice (some ⟨g, 0, none⟩) os.length c) (byteV os)) ∧ Below w.heap.size w wr) (fun _ i _ => (intOf i).natAbs)
  case atStart => exact ⟨n, [], _, _, rfl, rfl, HN, by simp [Hid], O0, (Below.refl _ _).alloc (Nat.le_refl _) _⟩
  case round =>
    obtain ⟨k, os, g, c, rfl, rfl, HK, HF, HO, hbel⟩ := hrel
    have hsz := hbel.size
    by_cases hk : k = 0
    · subst hk
      have hos : full n = os := HF.out
      by_cases hn0 : n = 0
      · subst hn0
        have : os = [] := hos.symm
        subst this
        have HR : Hid (Lib.itoa 0 = [48]) := by unfold Hid; rw [full_itoa]; rfl
        clear HF HO hos
        go_wp2_with fail
        go_ret
        exact ⟨by rw [HR.out]; rfl, hbel⟩
      · have hne : os ≠ [] := by
          rw [← hos]; unfold full; rw [if_neg hn0]; exact decDigits_ne _
        have hl0 : ¬ (os.length : Int) = 0 := by
          have := List.length_pos_iff.2 hne; omega
        have hconv := conv_bytes HO.out hne
        have hr := full_itoa n
        rw [if_neg hn0, hos] at hr
        have hz : (bs os).size ≤ 20 := by rw [bs_size, ← hos]; exact full_len HN.out
        by_cases hneg : n < 0
        · rw [if_pos hneg] at hr
          have HA : Hid (ByteArray.mk #[45] ++ bs os = bs (45 :: os)) := bs_app [45] os
          have HR := Lib.hid hr
          clear hr HF hos hne HO
          go_wp2_with fail
          go_ret
          exact ⟨by rw [HR.out, ← HA.out]; rfl, hbel⟩
        · rw [if_neg hneg] at hr
          have HR := Lib.hid hr
          clear hr HF hos hne HO
          go_wp2_with fail
          go_ret
          exact ⟨by rw [HR.out]; rfl, hbel⟩
    · have HSTEP : Hid (full n = full (k.tdiv 10) ++ UInt8.ofNat (48 + k.natAbs % 10) :: os) := by
        unfold Hid; rw [HF.out, full_step hk, List.append_assoc]; rfl
      obtain ⟨d, hd⟩ : ∃ d : Nat, d = k.natAbs % 10 := ⟨_, rfl⟩
      rw [← hd] at HSTEP
      have hd10 : d < 10 := by omega
      have hval : ((UInt8.ofNat (48 + d)).toNat : Int) = 48 + (d : Int) := by simp; omega
      have hcase : k.tmod 10 = (d : Int) ∨ (k.tmod 10 = -(d : Int) ∧ 0 < d) := by
        have h1 := Int.natAbs_tmod k 10
        have h2 : (k.tmod 10).natAbs = d := by rw [h1, hd]; rfl
        omega
      have HQ1 : Hid (I64 (k.tdiv 10)) := by
        have := Int.natAbs_tdiv k 10
        have h2 := HK.out
        unfold I64 at h2
        unfold Hid I64
        have e : (k.tdiv 10).natAbs = k.natAbs / 10 := this
        omega
      have HQ : Hid (wrap64 (k.tdiv 10) = k.tdiv 10) := by
        have := HQ1.out
        unfold I64 at this
        unfold Hid wrap64
        omega
      generalize hcb : UInt8.ofNat (48 + d) = cb at HSTEP hval
      obtain ⟨wl, hwl⟩ : ∃ wl, wl = wr.alloc (.cells #[.int .u8 (48 + (d : Int))] 5) := ⟨_, rfl⟩
      have OWN : Hid (OwnV w.heap.size wl 5 (.slice (some ⟨wr.heap.size, 0, none⟩) 1 1) (byteV [cb])) := by
        have h := World.ownsRow_lit (base := w.heap.size) (e := 5) (size := 1) wr #[.int .u8 (48 + (d : Int))] 1 hsz (by simp [maxLen]) (by simp)
        rw [hwl]
        simpa [Hid, OwnV, byteV, hval] using h
      have HR : Hid (∀ i, (h : i < (byteV os).length) → wl.cell? ⟨g, 0 + i, none⟩ = some (byteV os)[i]) := by
        have ho := (HO.out).below (w' := wl) (by rw [hwl]; exact (Below.refl _ _).alloc (Nat.le_refl _) _)
        intro i hi
        rcases OwnV.cases ho with ⟨h0, _⟩ | ⟨g0, c0, h1, _, _, _, hr⟩
        · simp at h0
        · simp only [Value.slice.injEq, Option.some.injEq, Addr.mk.injEq, and_true] at h1
          obtain ⟨rfl, -, -⟩ := h1
          rcases hr.cells with h0 | ⟨b, o, e1, hc⟩
          · rw [h0] at hi; simp at hi
          · simp only [Option.some.injEq, Addr.mk.injEq, and_true] at e1
            obtain ⟨rfl, rfl⟩ := e1
            exact hc i hi
      have HONE : Hid (∀ u ∈ byteV os, u.oneCell' = true) := by
        intro u hu
        obtain ⟨b, -, rfl⟩ := List.mem_map.1 hu
        rfl
      have hosl : os.length ≤ 20 := by
        have h1 := full_len HN.out
        have h2 : (full n).length = (full k ++ os).length := by rw [HF.out]
        rw [List.length_append] at h2
        omega
      have HLEN : Hid ((byteV [cb]).length + (byteV os).length < 1099511627776) := by simp [Hid, byteV]; omega
      have HB1 : Hid (Below w.heap.size w wl) := by rw [hwl]; exact hbel.alloc hsz _
      have HSZ : Hid (w.heap.size ≤ wl.heap.size) := HB1.out.size
      have HWL := Lib.hid hwl
      have HOSL : Hid ((byteV os).length = os.length) := by simp [Hid, byteV]
      clear hwl
      have hd0 : (0 : Int) ≤ d := by omega
      have hd9 : (d : Int) < 10 := by omega
      clear hd
      rcases hcase with hkd | ⟨hkd, hdp⟩
      · go_wp2_with (first
          | (at_builtin; rw [← HWL.out]; refine wpList_append_srcV rfl _ _ rfl 1 (.int .u8 0) Tryz.underlying22 infoB rfl (by omega) rfl OWN.out (us := byteV os) (b := g) (o' := 0) (c := c) (by rw [HOSL.out]; rfl) HR.out HONE.out HB1.out HLEN.out HSZ.out (Nat.le_refl _) ?_; intro v' w2 ho2 hb2 hz2 hk2)
          | fail)
        go_roundw
        case rel =>
          have HO2 : OwnV w.heap.size w2 5 v' (byteV (cb :: os)) := by simpa [byteV] using ho2
          rcases OwnV.cases HO2 with ⟨_, h0⟩ | ⟨g', c', h1, _⟩
          · simp [byteV] at h0
          · have h1' : v' = .slice (some ⟨g', 0, none⟩) (cb :: os).length c' := by rw [h1]; simp [byteV]
            exact ⟨k.tdiv 10, cb :: os, g', c', h1', by first | rfl | rw [HQ.out], HQ1.out, HSTEP.out, by rw [← h1']; exact HO2, hb2⟩
        case measure =>
          have := HQ.out
          have h2 : (k.tdiv 10).natAbs = k.natAbs / 10 := Int.natAbs_tdiv k 10
          simp [intOf, this, h2] <;> omega
      · go_wp2_with (first
          | (at_builtin; rw [← HWL.out]; refine wpList_append_srcV rfl _ _ rfl 1 (.int .u8 0) Tryz.underlying22 infoB rfl (by omega) rfl OWN.out (us := byteV os) (b := g) (o' := 0) (c := c) (by rw [HOSL.out]; rfl) HR.out HONE.out HB1.out HLEN.out HSZ.out (Nat.le_refl _) ?_; intro v' w2 ho2 hb2 hz2 hk2)
          | fail)
        go_roundw
        case rel =>
          have HO2 : OwnV w.heap.size w2 5 v' (byteV (cb :: os)) := by simpa [byteV] using ho2
          rcases OwnV.cases HO2 with ⟨_, h0⟩ | ⟨g', c', h1, _⟩
          · simp [byteV] at h0
          · have h1' : v' = .slice (some ⟨g', 0, none⟩) (cb :: os).length c' := by rw [h1]; simp [byteV]
            exact ⟨k.tdiv 10, cb :: os, g', c', h1', by first | rfl | rw [HQ.out], HQ1.out, HSTEP.out, by rw [← h1']; exact HO2, hb2⟩
        case measure =>
          have := HQ.out
          have h2 : (k.tdiv 10).natAbs = k.natAbs / 10 := Int.natAbs_tdiv k 10
          simp [intOf, this, h2] <;> omega
set_option maxHeartbeats 2000000 in
set_option maxRecDepth 100000 in
theorem l03Text_any {p : Option Addr} {c : Nat} {xs : List Int} (w : World) (h : RdI w p xs) (hI : AllI xs) (hn : xs.length ≤ 1048576) :
    Calls Tryz.prog 115 #[.slice p xs.length c] w fun e w' => e = .returned (.string (bs (numStr xs))) ∧ Below w.heap.size w w' := by
  have D : Hid (∀ W k, (hk : k < xs.length) → Calls Tryz.prog 94 #[.int .i64 xs[k]] W fun e w' => e = .returned (.string (bs (Lib.itoa xs[k]))) ∧ Below W.heap.size W w') := fun W k hk => l01Dec_any _ (hI _ (List.getElem_mem hk)) W
  have HL : Hid (∀ k, (bs (numStr (xs.take k))).size ≤ 22 * 1048576) := fun k => by
    have := numStr_length (xs := xs.take k) (fun y hy => hI y (List.mem_of_mem_take hy))
    rw [bs_size]
    simp at this
    omega
  have HI : Hid (∀ k, (hk : k < xs.length) → (bs (Lib.itoa xs[k])).size ≤ 21) := fun k hk => by
    rw [bs_size]
    exact Lib.itoa_length_le _ (hI _ (List.getElem_mem hk)).1 (hI _ (List.getElem_mem hk)).2
  have HR := Lib.hid h
  clear hI
  go_enter Tryz.func115, Tryz.ntmps115
  go_wp2_with fail
  go_loopw [3, 4] (fun v i wr => ∃ (k : Nat) (s : ByteArray), k ≤ xs.length ∧ v = .string s ∧ i = .int .i64 (k : Int) ∧ Hid (s = bs (numStr (xs.take k))) ∧ Below w.heap.size w wr) (fun _ i _ => ((xs.length : Int) - intOf i).toNat)
  case atStart => exact ⟨0, _, Nat.zero_le _, rfl, rfl, rfl, Below.refl _ _⟩
  case round =>
    obtain ⟨k, s, hk, rfl, rfl, HS, hbel⟩ := hrel
    have hsz := hbel.size
    by_cases hkt : k < xs.length
    · have hr : RdI wr p xs := HR.out.below hbel
      obtain ⟨b, o, rfl, hb, hc⟩ := hr.pos hkt
      have hck := hc k hkt
      have DK := Lib.hid (D.out wr k hkt)
      have hz : s.size ≤ 22 * 1048576 := by rw [HS.out]; exact HL.out k
      have hi := HI.out k hkt
      have HM : Hid (numStr (xs.take (k + 1)) = if xs.take k = [] then Lib.itoa xs[k] else numStr (xs.take k) ++ 32 :: Lib.itoa xs[k]) := by
        unfold Hid
        rw [List.take_succ_eq_append_getElem hkt, numStr_snoc]
      generalize xs[k] = x at hck DK HM hi
      clear hc hr h
      by_cases hk0 : k = 0
      · subst hk0
        rw [Nat.add_zero] at hck
        have hs : Hid (s = bs []) := by have := HS.out; simpa [Hid, numStr, Lib.join_nil] using this
        go_wp2_with (first | (go_at_call 94; refine DK.out.mono ?_; rintro e w1 ⟨rfl, hB1⟩) | fail)
        go_roundw
        case rel =>
          refine ⟨1, _, by omega, rfl, by go_num, ?_, hbel.trans (hB1.mono hsz)⟩
          unfold Hid
          rw [HM.out, if_pos (by simp), hs.out, bs_app, List.nil_append]
        case measure => simp [intOf] <;> omega
      · have hk1 : (0 : Int) < k := by omega
        have h32 : (s ++ ByteArray.mk #[32]).size ≤ 22 * 1048576 + 1 := by
          have e1 : (ByteArray.mk #[32]).size = 1 := rfl
          rw [ByteArray.size_append, e1]
          omega
        go_wp2_with (first | (go_at_call 94; refine DK.out.mono ?_; rintro e w1 ⟨rfl, hB1⟩) | fail)
        go_roundw
        case rel =>
          refine ⟨k + 1, _, by omega, rfl, by go_num, ?_, hbel.trans (hB1.mono hsz)⟩
          unfold Hid
          have hne : xs.take k ≠ [] := by
            intro h0
            have := congrArg List.length h0
            rw [List.length_take, List.length_nil] at this
            omega
          rw [HM.out, if_neg hne, HS.out]
          have e32 : (ByteArray.mk #[32]) = bs [32] := rfl
          rw [e32, bs_app, bs_app, List.append_assoc]
          rfl
        case measure => simp [intOf] <;> omega
    · obtain rfl : k = xs.length := by omega
      have hs : Hid (s = bs (numStr xs)) := by have := HS.out; rwa [List.take_length] at this
      go_wp2_with fail
      go_ret
      exact ⟨by rw [hs.out]; rfl, hbel⟩
end Go.Proofs.YtdcacmmglkcliaaGreatDoor
