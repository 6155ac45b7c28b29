/-
  The text of a valid patch: the program's and the reference's loops.
-/
import Derived.Test.YtdcacmmglkcliaaGreatDoorTxtP
namespace Go.Proofs.YtdcacmmglkcliaaGreatDoor
open Go.ChangeShapes Go.WideShapes Go.ChangeAt Go.RowKit Go.Sort
set_option linter.unusedVariables false
set_option linter.unusedSimpArgs false

set_option maxHeartbeats 8000000 in
set_option maxRecDepth 100000 in
theorem patchText_v {v : Value} {x : PatchD} (w : World) (h : VPatch w v x) (hx : okB x = true) (hT : TxtT w) :
    Calls Tryz.prog 53 #[v] w fun e w' => e = .returned (.string (bs (patchStr x))) ∧ Below w.heap.size w w' := by
  obtain ⟨q1, q2, q3, q4, q5, q6, q7⟩ := okB_parts hx
  have hjl : (Lib.join (linesP x) [10]).length ≤ 200000 := by
    have h1 := join_le 6000 _ (lines_le hx)
    have h2 := lines_n hx
    have : (linesP x).length * (6000 + 1) ≤ 30 * 6001 := Nat.mul_le_mul h2 (Nat.le_refl _)
    omega
  have hn30 := lines_n hx
  obtain ⟨p1, c1, p2, c2, p3, c3, rfl, r1, r2, r3⟩ := h
  obtain ⟨E0, hE0⟩ : ∃ E, E = w.alloc (.cells #[.int .i64 x.inputs, .slice p1 x.tables.length c1, .slice p2 x.nodes.length c2, .slice p3 x.outputs.length c3] 46) := ⟨_, rfl⟩
  have hB0 : Below w.heap.size w E0 := by rw [hE0]; exact (Below.refl _ _).alloc (Nat.le_refl _) _
  have ba : Box E0 w.heap.size [.int .i64 x.inputs, .slice p1 x.tables.length c1, .slice p2 x.nodes.length c2, .slice p3 x.outputs.length c3] 46 := by rw [hE0]; exact Box.newAt w [.int .i64 x.inputs, .slice p1 x.tables.length c1, .slice p2 x.nodes.length c2, .slice p3 x.outputs.length c3] _ rfl
  have HE0 := Lib.hid hE0
  have HB0 := Lib.hid hB0
  have HS0 : Hid (w.heap.size ≤ E0.heap.size) := hB0.size
  have HT := Lib.hid (hT.below hB0)
  have H1 := Lib.hid (r1.below hB0)
  have H2 := Lib.hid (r2.below hB0)
  have H3 := Lib.hid (r3.below hB0)
  have HBA := Lib.hid ba
  have D0 : Hid (Calls Tryz.prog 82 #[.int .i64 x.inputs] E0 fun e w' => e = .returned (.string (bs (Lib.itoa x.inputs))) ∧ Below E0.heap.size E0 w') := decimal_any _ (by omega) (by omega) E0 HT.out
  have HI : (bs (Lib.itoa x.inputs)).size ≤ 21 := by rw [bs_size]; exact Lib.itoa_length_le _ (by omega) (by omega)
  have HH : Hid (ByteArray.mk #[112, 97, 116, 99, 104, 32] ++ bs (Lib.itoa x.inputs) = bs ([112, 97, 116, 99, 104, 32] ++ Lib.itoa x.inputs)) := bs_app [112, 97, 116, 99, 104, 32] (Lib.itoa x.inputs)
  have SV : Hid (∀ W k, Below E0.heap.size E0 W → (hk : k < x.tables.length) → ∀ q c, RdI W q x.tables[k] → Calls Tryz.prog 99 #[.string ⟨#[118, 97, 108, 117, 101, 115]⟩, .slice q x.tables[k].length c] W fun e w' => e = .returned (.string (bs (spacedStr [118, 97, 108, 117, 101, 115] x.tables[k]))) ∧ Below W.heap.size W w') := fun W k hW hk q c hr => by
    have ht := q3 _ (List.getElem_mem hk)
    exact spaced_any (c := c) [118, 97, 108, 117, 101, 115] W hr ht.1 (by omega) (by simp) (HT.out.below hW)
  have SO : Hid (∀ W, Below E0.heap.size E0 W → Calls Tryz.prog 99 #[.string ⟨#[111, 117, 116]⟩, .slice p3 x.outputs.length c3] W fun e w' => e = .returned (.string (bs (spacedStr [111, 117, 116] x.outputs))) ∧ Below W.heap.size W w') := fun W hW =>
    spaced_any (c := c3) [111, 117, 116] W (H3.out.below hW) q6 (by omega) (by simp) (HT.out.below hW)
  have NT : Hid (∀ W k, Below E0.heap.size E0 W → (hk : k < x.nodes.length) → ∀ v, VNode W v x.nodes[k] → Calls Tryz.prog 40 #[v] W fun e w' => e = .returned (.string (bs (nodeStr x.nodes[k]))) ∧ Below W.heap.size W w') := fun W k hW hk v hv => nodeText_v W hv (q5 _ (List.getElem_mem hk)) (HT.out.below hW)
  have JN : Hid (∀ W B v ss, ss = linesP x → OwnV B W 9 v (ss.map fun l => Value.string (bs l)) → Calls Tryz.prog 84 #[v, .string ⟨#[10]⟩] W fun e w' => e = .returned (.string (bs (Lib.join (linesP x) [10]))) ∧ Below W.heap.size W w') := fun W B v ss e h => by
    subst e
    exact join_any [10] W h (by omega) (by omega)
  have HJ : (bs (Lib.join (linesP x) [10])).size ≤ 200000 := by rw [bs_size]; exact hjl
  have HF : Hid (bs (patchStr x) = bs (Lib.join (linesP x) [10]) ++ ⟨#[10]⟩) := by
    unfold Hid patchStr
    rw [show (ByteArray.mk #[10]) = bs [10] from rfl, bs_app]
  have LE : Hid (∀ s, s = linesP x ↔ s = ([112, 97, 116, 99, 104, 32] ++ Lib.itoa x.inputs) :: (x.tables.map (spacedStr [118, 97, 108, 117, 101, 115]) ++ x.nodes.map nodeStr ++ [spacedStr [111, 117, 116] x.outputs])) := fun s => Iff.rfl
  have hz1 := ba.cell 0 rfl
  have hz2 := ba.cell 1 rfl
  have hz3 := ba.cell 2 rfl
  have hz4 := ba.cell 3 rfl
  have N1 : x.tables.length ≤ 4 := q2
  have N2 : x.nodes.length ≤ 24 := q4
  have e6 : (ByteArray.mk #[112, 97, 116, 99, 104, 32]).size = 6 := rfl
  clear hE0 hB0 hT r1 r2 r3 ba q1 q2 q3 q4 q5 q6 q7 hx hjl hn30
  obtain ⟨hd, hhd⟩ : ∃ l, l = [112, 97, 116, 99, 104, 32] ++ Lib.itoa x.inputs := ⟨_, rfl⟩
  rw [← hhd] at HH LE
  generalize bs (Lib.itoa x.inputs) = NI at *
  clear hhd
  obtain ⟨LS, hLS⟩ : ∃ s, s = linesP x := ⟨_, rfl⟩
  obtain ⟨J, hJ⟩ : ∃ s, s = bs (Lib.join (linesP x) [10]) := ⟨_, rfl⟩
  rw [← hJ] at JN HJ HF
  rw [← hLS] at JN LE
  clear hJ hLS
  go_enter Tryz.func53, Tryz.ntmps53
  go_upto_region 1 with fail
  rw [← HE0.out]
  go_upto_region 2 with (first
    | (go_at_call 82; refine D0.out.mono ?_; rintro e E1 ⟨rfl, hb⟩)
    | fail)
  rw [HH.out]
  have hs1 : E0.heap.size ≤ E1.heap.size := hb.size
  have ho : OwnV E0.heap.size (E1.alloc (.cells #[.string (bs hd)] 9)) 9 (.slice (some ⟨E1.heap.size, 0, none⟩) 1 1) ([hd].map fun l => Value.string (bs l)) := OwnW.lit E1 [hd] hs1 (by simp [maxLen])
  have hb := hb.alloc hs1 (.cells #[.string (bs hd)] 9)
  generalize E1.alloc (.cells #[.string (bs hd)] 9) = E2 at *
  have hz1 := (HBA.out.below hb).cell 1 rfl
  have hz2 := (HBA.out.below hb).cell 2 rfl
  have hz3 := (HBA.out.below hb).cell 3 rfl
  have hgl := (HBA.out.below hb).lt
  have HO := Lib.hid ho
  clear ho D0 HH HI e6
  go_wp2_with fail
  go_loopw [3, 16] (fun v i wr => ∃ (k : Nat) (u : Value), k ≤ x.tables.length ∧ v = u ∧ i = .int .i64 (k : Int) ∧ Hid (OwnV E0.heap.size wr 9 u (([hd] ++ (x.tables.take k).map (spacedStr [118, 97, 108, 117, 101, 115])).map fun l => Value.string (bs l))) ∧ Below E0.heap.size E0 wr) (fun _ i _ => ((x.tables.length : Int) - intOf i).toNat)
  case atStart => exact ⟨0, _, Nat.zero_le _, rfl, rfl, by simpa using HO, hb⟩
  case round =>
    obtain ⟨k, v, hk, hv, rfl, HK, hbel⟩ := hrel
    obtain rfl := hv.symm
    clear HO hz1 hz2 hz3 hz4 hgl hb
    have hsz := hbel.size
    by_cases hkt : k < x.tables.length
    · have hr : RdII wr p1 x.tables := H1.out.below hbel
      obtain ⟨b, o, rfl, hb, hc⟩ := hr.pos hkt
      obtain ⟨q, c, hck, hrq⟩ := hc k hkt
      have SK := Lib.hid (SV.out wr k hbel hkt q c hrq)
      have HM : Hid (([hd] ++ (x.tables.take (k + 1)).map (spacedStr [118, 97, 108, 117, 101, 115])) = ([hd] ++ (x.tables.take k).map (spacedStr [118, 97, 108, 117, 101, 115])) ++ [spacedStr [118, 97, 108, 117, 101, 115] x.tables[k]]) := by
        unfold Hid
        rw [List.take_succ_eq_append_getElem hkt, List.map_append, List.append_assoc]
        rfl
      have HLl : Hid ((([hd] ++ (x.tables.take k).map (spacedStr [118, 97, 108, 117, 101, 115])).map fun l => Value.string (bs l)).length < 1099511627776) := by unfold Hid; simp; omega
      generalize x.tables[k] = tb at hck SK HM hrq
      clear hc hr
      go_wp2_with (first
        | (go_at_call 99; refine SK.out.mono ?_; rintro e w1 ⟨rfl, hB1⟩; have hown1 : OwnV _ _ _ _ _ := OwnV.below HK.out hB1; have hb1 : Below E0.heap.size E0 w1 := hbel.trans (hB1.mono hsz); have hz1 := hb1.size)
        | (at_builtin; refine wpList_append_val rfl _ _ rfl 16 (.string ByteArray.empty) Tryz.underlying69 infoS rfl (by omega) rfl hown1 rfl rfl hb1 HLl.out hz1 (Nat.le_refl _) ?_; intro v' w2 ho2 hb2 hz2 hk2)
        | fail)
      go_roundw
      case rel => exact ⟨k + 1, _, by omega, rfl, by go_num, by unfold Hid; rw [HM.out]; simpa using ho2, hb2⟩
      case measure => simp [intOf] <;> omega
    · obtain rfl : k = x.tables.length := by omega
      have HK' : Hid (OwnV E0.heap.size wr 9 v (([hd] ++ x.tables.map (spacedStr [118, 97, 108, 117, 101, 115])).map fun l => Value.string (bs l))) := by have := HK.out; rwa [List.take_length] at this
      clear HK
      obtain ⟨LT, hLT⟩ : ∃ l, l = [hd] ++ x.tables.map (spacedStr [118, 97, 108, 117, 101, 115]) := ⟨_, rfl⟩
      rw [← hLT] at HK'
      have HLT : Hid (LT = [hd] ++ x.tables.map (spacedStr [118, 97, 108, 117, 101, 115])) := hLT
      have HLN : Hid (LT.length ≤ 5) := by unfold Hid; rw [hLT]; simp; omega
      clear hLT
      obtain ⟨wi, rfl⟩ : ∃ wi : World, wi = wr := ⟨_, rfl⟩
      have hz3 := (HBA.out.below hbel).cell 2 rfl
      have hgl := (HBA.out.below hbel).lt
      go_wp2_with fail
      go_loopw [3, 29] (fun v i wr => ∃ (k : Nat) (u : Value), k ≤ x.nodes.length ∧ v = u ∧ i = .int .i64 (k : Int) ∧ Hid (OwnV E0.heap.size wr 9 u ((LT ++ (x.nodes.take k).map nodeStr).map fun l => Value.string (bs l))) ∧ Below E0.heap.size E0 wr) (fun _ i _ => ((x.nodes.length : Int) - intOf i).toNat)
      case atStart => exact ⟨0, _, Nat.zero_le _, rfl, rfl, by simpa using HK', hbel⟩
      case round =>
        obtain ⟨k, v, hk, hv, rfl, HK, hbel⟩ := hrel
        obtain rfl := hv.symm
        clear HK' hz3 hgl
        have hsz := hbel.size
        by_cases hkt : k < x.nodes.length
        · have hr : RdNodeS wr p2 x.nodes := H2.out.below hbel
          obtain ⟨b, o, rfl, hb, hc⟩ := hr.pos hkt
          have hP := hc k hkt
          obtain ⟨z0, z1, z2, q, c, z3, hrq⟩ := hP
          have HM : Hid ((LT ++ (x.nodes.take (k + 1)).map nodeStr) = (LT ++ (x.nodes.take k).map nodeStr) ++ [nodeStr x.nodes[k]]) := by
            unfold Hid
            rw [List.take_succ_eq_append_getElem hkt, List.map_append, List.append_assoc]
            rfl
          have HLl : Hid (((LT ++ (x.nodes.take k).map nodeStr).map fun l => Value.string (bs l)).length < 1099511627776) := by
            have := HLN.out
            unfold Hid; simp; omega
          have NK : Hid (∀ W, Below wr.heap.size wr W → Calls Tryz.prog 40 #[.agg #[.int .i64 x.nodes[k].kind, .int .i64 x.nodes[k].a, .int .i64 x.nodes[k].b, .slice q x.nodes[k].src.length c]] W fun e w' => e = .returned (.string (bs (nodeStr x.nodes[k]))) ∧ Below W.heap.size W w') := fun W hW => NT.out W k (hbel.trans (hW.mono hsz)) hkt _ ⟨q, c, rfl, hrq.below hW⟩
          generalize x.nodes[k] = nd at z0 z1 z2 z3 NK HM hrq
          clear hc hr
          have hba0 : Below wr.heap.size wr (wr.alloc (.cells #[.int .i64 nd.kind, .int .i64 nd.a, .int .i64 nd.b, .slice q nd.src.length c] 26)) := (Below.refl _ _).alloc (Nat.le_refl _) _
          have NK1 := Lib.hid (NK.out _ hba0)
          go_wp2_with (first
            | (go_at_call 40; refine NK1.out.mono ?_; rintro e w1 ⟨rfl, hB1⟩; have hbx := hba0.trans (hB1.mono hba0.size); have hown1 : OwnV _ _ _ _ _ := OwnV.below HK.out hbx; have hb1 : Below E0.heap.size E0 w1 := hbel.trans (hbx.mono hsz); have hz1 := hb1.size)
            | (at_builtin; refine wpList_append_val rfl _ _ rfl 16 (.string ByteArray.empty) Tryz.underlying69 infoS rfl (by omega) rfl hown1 rfl rfl hb1 HLl.out hz1 (Nat.le_refl _) ?_; intro v' w2 ho2 hb2 hz2 hk2)
            | fail)
          go_roundw
          case rel => exact ⟨k + 1, _, by omega, rfl, by go_num, by unfold Hid; rw [HM.out]; simpa using ho2, hb2⟩
          case measure => simp [intOf] <;> omega
        · obtain rfl : k = x.nodes.length := by omega
          have HK' : Hid (OwnV E0.heap.size wr 9 v ((LT ++ x.nodes.map nodeStr).map fun l => Value.string (bs l))) := by have := HK.out; rwa [List.take_length] at this
          have HLl : Hid (((LT ++ x.nodes.map nodeStr).map fun l => Value.string (bs l)).length < 1099511627776) := by
            have := HLN.out
            unfold Hid; simp; omega
          clear HK
          obtain ⟨wi, rfl⟩ : ∃ wi : World, wi = wr := ⟨_, rfl⟩
          have hz4 := (HBA.out.below hbel).cell 3 rfl
          have hgl := (HBA.out.below hbel).lt
          have SK := Lib.hid (SO.out wi hbel)
          have FIN : Hid (∀ s, s = (LT ++ x.nodes.map nodeStr) ++ [spacedStr [111, 117, 116] x.outputs] → s = LS) := fun s hs => (LE.out s).2 (by rw [hs, HLT.out]; simp)
          go_wp2_with (first
            | (go_at_call 99; refine SK.out.mono ?_; rintro e w1 ⟨rfl, hB1⟩; have hown1 : OwnV _ _ _ _ _ := OwnV.below HK'.out hB1; have hb1 : Below E0.heap.size E0 w1 := hbel.trans (hB1.mono hsz); have hz1 := hb1.size)
            | (at_builtin; refine wpList_append_val rfl _ _ rfl 16 (.string ByteArray.empty) Tryz.underlying69 infoS rfl (by omega) rfl hown1 rfl rfl hb1 HLl.out hz1 (Nat.le_refl _) ?_; intro v' w2 ho2 hb2 hz2 hk2; have HO2 : Hid (OwnV E0.heap.size w2 9 v' (((LT ++ x.nodes.map nodeStr) ++ [spacedStr [111, 117, 116] x.outputs]).map fun l => Value.string (bs l))) := (by unfold Hid; simpa using ho2); clear ho2)
            | (go_at_call 84; refine (JN.out _ _ _ _ (FIN.out _ rfl) HO2.out).mono ?_; rintro e w3 ⟨rfl, hB3⟩)
            | fail)
          go_ret
          exact ⟨by rw [HF.out]; rfl, HB0.out.trans ((hb2.trans (hB3.mono hb2.size)).mono HS0.out)⟩
end Go.Proofs.YtdcacmmglkcliaaGreatDoor
