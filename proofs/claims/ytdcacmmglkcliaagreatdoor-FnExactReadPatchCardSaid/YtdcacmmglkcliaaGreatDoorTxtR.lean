/-
  The text of a valid patch on the reference's side; contracts of both sides.
-/
import Derived.Test.YtdcacmmglkcliaaGreatDoorTxtQ
namespace Go.Proofs.YtdcacmmglkcliaaGreatDoor
open Go.ChangeShapes Go.WideShapes Go.ChangeAt Go.RowKit Go.Sort
set_option linter.unusedVariables false
set_option linter.unusedSimpArgs false

/-- lines, each with its end -/
def catL (ls : List (List UInt8)) : List UInt8 := (ls.map (· ++ [10])).flatten
theorem catL_snoc (ls : List (List UInt8)) (l : List UInt8) : catL (ls ++ [l]) = catL ls ++ (l ++ [10]) := by simp [catL]
theorem catL_le (m : Nat) : ∀ ls : List (List UInt8), (∀ l ∈ ls, l.length ≤ m) → (catL ls).length ≤ ls.length * (m + 1)
  | [], _ => by simp [catL]
  | l :: ls, h => by
    have h1 := h l (by simp)
    have h2 := catL_le m ls fun y hy => h y (by simp [hy])
    simp only [catL, List.map_cons, List.flatten_cons, List.length_append, List.length_cons, List.length_nil, Nat.add_mul, Nat.one_mul, Nat.mul_add, Nat.mul_one] at h2 ⊢
    omega
theorem patchStr_catL (x : PatchD) : patchStr x = catL (linesP x) := by
  unfold patchStr linesP catL
  exact patchStr_cat _ _
set_option maxHeartbeats 8000000 in
set_option maxRecDepth 100000 in
theorem l07Text_v {g : Nat} {x : PatchD} (w : World) (h : PPatch w g x) (hx : okB x = true) :
    Calls Tryz.prog 50 #[.pointer (some ⟨g, 0, none⟩)] w fun e w' => e = .returned (.string (bs (patchStr x))) ∧ Below w.heap.size w w' := by
  obtain ⟨q1, q2, q3, q4, q5, q6, q7⟩ := okB_parts hx
  have LB : Hid (∀ ls, (∀ l ∈ ls, l ∈ linesP x) → ls.length ≤ 30 → (bs (catL ls)).size ≤ 200000) := fun ls h1 h2 => by
    have := catL_le 6000 ls fun l hl => lines_le hx l (h1 l hl)
    have : ls.length * (6000 + 1) ≤ 30 * 6001 := Nat.mul_le_mul h2 (Nat.le_refl _)
    rw [bs_size]
    omega
  have LM : Hid (∀ l, l ∈ linesP x → (bs (l ++ [10])).size ≤ 6001) := fun l hl => by
    have := lines_le hx l hl
    rw [bs_size]
    simp
    omega
  have hP := Lib.hid h
  have hlt := h.lt
  obtain ⟨p1, c1, p2, c2, p3, c3, hbox, r1, r2, r3⟩ := h
  have H1 := Lib.hid r1
  have H2 := Lib.hid r2
  have H3 := Lib.hid r3
  have HBA := Lib.hid hbox
  have D0 : Hid (∀ W, Calls Tryz.prog 94 #[.int .i64 x.inputs] W fun e w' => e = .returned (.string (bs (Lib.itoa x.inputs))) ∧ Below W.heap.size W w') := fun W => l01Dec_any _ (by unfold I64; omega) W
  have HI : (bs (Lib.itoa x.inputs)).size ≤ 21 := by rw [bs_size]; exact Lib.itoa_length_le _ (by omega) (by omega)
  have HH : Hid (ByteArray.mk #[112, 97, 116, 99, 104, 32] ++ bs (Lib.itoa x.inputs) ++ ⟨#[10]⟩ = bs (catL [[112, 97, 116, 99, 104, 32] ++ Lib.itoa x.inputs])) := by
    unfold Hid
    rw [show (ByteArray.mk #[112, 97, 116, 99, 104, 32]) = bs [112, 97, 116, 99, 104, 32] from rfl, show (ByteArray.mk #[10]) = bs [10] from rfl, bs_app, bs_app]
    simp [catL]
  have SV : Hid (∀ W k, Below w.heap.size w W → (hk : k < x.tables.length) → ∀ q c, RdI W q x.tables[k] → Calls Tryz.prog 95 #[.string ⟨#[118, 97, 108, 117, 101, 115]⟩, .slice q x.tables[k].length c] W fun e w' => e = .returned (.string (bs (spacedStr [118, 97, 108, 117, 101, 115] x.tables[k] ++ [10]))) ∧ Below W.heap.size W w') := fun W k hW hk q c hr => by
    have ht := q3 _ (List.getElem_mem hk)
    exact l07Line_any (c := c) [118, 97, 108, 117, 101, 115] W hr ht.1 (by omega) (by simp)
  have SO : Hid (∀ W, Below w.heap.size w W → Calls Tryz.prog 95 #[.string ⟨#[111, 117, 116]⟩, .slice p3 x.outputs.length c3] W fun e w' => e = .returned (.string (bs (spacedStr [111, 117, 116] x.outputs ++ [10]))) ∧ Below W.heap.size W w') := fun W hW =>
    l07Line_any (c := c3) [111, 117, 116] W (H3.out.below hW) q6 (by omega) (by simp)
  have NT : Hid (∀ W k, (hk : k < x.nodes.length) → ∀ b o, PNode W b o x.nodes[k] → Calls Tryz.prog 91 #[.pointer (some ⟨b, o, none⟩)] W fun e w' => e = .returned (.string (bs (nodeStr x.nodes[k]))) ∧ Below W.heap.size W w') := fun W k hk b o hp => l06Text_v W hp (q5 _ (List.getElem_mem hk))
  have NL : Hid (∀ k, (hk : k < x.nodes.length) → (bs (nodeStr x.nodes[k])).size ≤ 200) := fun k hk => by rw [bs_size]; exact nodeStr_le (q5 _ (List.getElem_mem hk))
  have HF : Hid (bs (patchStr x) = bs (catL (linesP x))) := by unfold Hid; rw [patchStr_catL]
  obtain ⟨LI, hLI⟩ : ∃ s, s = linesP x := ⟨_, rfl⟩
  rw [← hLI] at LB LM HF
  have LE : Hid (LI = ([112, 97, 116, 99, 104, 32] ++ Lib.itoa x.inputs) :: (x.tables.map (spacedStr [118, 97, 108, 117, 101, 115]) ++ x.nodes.map nodeStr ++ [spacedStr [111, 117, 116] x.outputs])) := hLI
  clear hLI
  have hz1 := hbox.cell 0 rfl
  have hz2 := hbox.cell 1 rfl
  have hz3 := hbox.cell 2 rfl
  have hz4 := hbox.cell 3 rfl
  have N1 : x.tables.length ≤ 4 := q2
  have N2 : x.nodes.length ≤ 24 := q4
  have e6 : (ByteArray.mk #[112, 97, 116, 99, 104, 32]).size = 6 := rfl
  have e1 : (ByteArray.mk #[10]).size = 1 := rfl
  have t1 : (ByteArray.mk #[112, 97, 116, 99, 104, 32] ++ bs (Lib.itoa x.inputs)).size ≤ 27 := by rw [ByteArray.size_append, e6]; omega
  clear r1 r2 r3 q1 q2 q3 q4 q5 q6 q7 hx e6
  obtain ⟨hd, hhd⟩ : ∃ l, l = [112, 97, 116, 99, 104, 32] ++ Lib.itoa x.inputs := ⟨_, rfl⟩
  rw [← hhd] at HH LE
  generalize bs (Lib.itoa x.inputs) = NI at *
  clear hhd hbox
  go_enter Tryz.func50, Tryz.ntmps50
  go_upto_region 2 with (first
    | (go_at_call 94; refine (D0.out _).mono ?_; rintro e E1 ⟨rfl, hb⟩)
    | fail)
  rw [HH.out]
  clear D0 HH HI t1
  have hz2 := (HBA.out.below hb).cell 1 rfl
  go_wp2_with fail
  go_loopw [3, 4] (fun v i wr => ∃ (k : Nat) (s : ByteArray), k ≤ x.tables.length ∧ v = .string s ∧ i = .int .i64 (k : Int) ∧ Hid (s = bs (catL ([hd] ++ (x.tables.take k).map (spacedStr [118, 97, 108, 117, 101, 115])))) ∧ Below w.heap.size w wr) (fun _ i _ => ((x.tables.length : Int) - intOf i).toNat)
  case atStart => exact ⟨0, _, Nat.zero_le _, rfl, rfl, by simp [Hid], hb⟩
  case round =>
    obtain ⟨k, s, hk, rfl, rfl, HK, hbel⟩ := hrel
    clear hz1 hz2 hz3 hz4 hb
    have hsz := hbel.size
    have hz2 := (HBA.out.below hbel).cell 1 rfl
    have hz3 := (HBA.out.below hbel).cell 2 rfl
    have hsb : s.size ≤ 200000 := by
      rw [HK.out]
      refine LB.out _ (fun l hl => ?_) (by simp; omega)
      rw [LE.out]
      simp only [List.mem_append, List.mem_singleton, List.mem_cons, List.mem_map, List.not_mem_nil, or_false] at hl ⊢
      rcases hl with rfl | ⟨t, ht, rfl⟩
      · exact .inl rfl
      · exact .inr (.inl (.inl ⟨t, List.mem_of_mem_take ht, rfl⟩))
    by_cases hkt : k < x.tables.length
    · have hr : RdII wr p1 x.tables := H1.out.below hbel
      obtain ⟨b, o, rfl, hb, hc⟩ := hr.pos hkt
      obtain ⟨q, c, hck, hrq⟩ := hc k hkt
      have SK := Lib.hid (SV.out wr k hbel hkt q c hrq)
      have hlb := LM.out (spacedStr [118, 97, 108, 117, 101, 115] x.tables[k]) (by rw [LE.out]; simp only [List.mem_append, List.mem_cons, List.mem_map]; exact .inr (.inl (.inl ⟨_, List.getElem_mem hkt, rfl⟩)))
      have HM : Hid (([hd] ++ (x.tables.take (k + 1)).map (spacedStr [118, 97, 108, 117, 101, 115])) = ([hd] ++ (x.tables.take k).map (spacedStr [118, 97, 108, 117, 101, 115])) ++ [spacedStr [118, 97, 108, 117, 101, 115] x.tables[k]]) := by
        unfold Hid
        rw [List.take_succ_eq_append_getElem hkt, List.map_append, List.append_assoc]
        rfl
      generalize x.tables[k] = tb at hck SK HM hrq hlb
      clear hc hr
      go_wp2_with (first
        | (go_at_call 95; refine SK.out.mono ?_; rintro e w1 ⟨rfl, hB1⟩)
        | fail)
      go_roundw
      case rel => exact ⟨k + 1, _, by omega, rfl, by go_num, by unfold Hid; rw [HM.out, catL_snoc, HK.out, bs_app], hbel.trans (hB1.mono hsz)⟩
      case measure => simp [intOf] <;> omega
    · obtain rfl : k = x.tables.length := by omega
      obtain ⟨LT, hLT⟩ : ∃ l, l = [hd] ++ x.tables.map (spacedStr [118, 97, 108, 117, 101, 115]) := ⟨_, rfl⟩
      have HK' : Hid (s = bs (catL LT)) := by have := HK.out; rw [List.take_length] at this; rw [hLT]; exact this
      have HLT : Hid (LT = [hd] ++ x.tables.map (spacedStr [118, 97, 108, 117, 101, 115])) := hLT
      have HLN : Hid (LT.length ≤ 5) := by unfold Hid; rw [hLT]; simp; omega
      clear hLT HK
      obtain ⟨wi, rfl⟩ : ∃ wi : World, wi = wr := ⟨_, rfl⟩
      go_wp2_with fail
      go_loopw [3, 5] (fun v i wr => ∃ (k : Nat) (s : ByteArray), k ≤ x.nodes.length ∧ v = .string s ∧ i = .int .i64 (k : Int) ∧ Hid (s = bs (catL (LT ++ (x.nodes.take k).map nodeStr))) ∧ Below w.heap.size w wr) (fun _ i _ => ((x.nodes.length : Int) - intOf i).toNat)
      case atStart => exact ⟨0, _, Nat.zero_le _, rfl, rfl, by simpa using HK', hbel⟩
      case round =>
        obtain ⟨k, s', hk, rfl, rfl, HK, hbel⟩ := hrel
        clear hz3 hz2 HK' hsb
        have hsz := hbel.size
        have hz3 := (HBA.out.below hbel).cell 2 rfl
        have hz4 := (HBA.out.below hbel).cell 3 rfl
        have hsb : s'.size ≤ 200000 := by
          rw [HK.out]
          refine LB.out _ (fun l hl => ?_) (by have := HLN.out; simp; omega)
          rw [LE.out]
          rw [HLT.out] at hl
          simp only [List.mem_append, List.mem_singleton, List.mem_cons, List.mem_map, List.not_mem_nil, or_false] at hl ⊢
          rcases hl with (rfl | ⟨t, ht, rfl⟩) | ⟨n, hn, rfl⟩
          · exact .inl rfl
          · exact .inr (.inl (.inl ⟨t, ht, rfl⟩))
          · exact .inr (.inl (.inr ⟨n, List.mem_of_mem_take hn, rfl⟩))
        by_cases hkt : k < x.nodes.length
        · have hr : RdNodeS wr p2 x.nodes := H2.out.below hbel
          obtain ⟨b, o, rfl, hb, hc⟩ := hr.pos hkt
          have NK := Lib.hid (NT.out wr k hkt b (o + k * 4) (hc k hkt))
          have hnl := NL.out k hkt
          have HM : Hid ((LT ++ (x.nodes.take (k + 1)).map nodeStr) = (LT ++ (x.nodes.take k).map nodeStr) ++ [nodeStr x.nodes[k]]) := by
            unfold Hid
            rw [List.take_succ_eq_append_getElem hkt, List.map_append, List.append_assoc]
            rfl
          have hnl2 : (bs (nodeStr x.nodes[k]) ++ ByteArray.mk #[10]).size ≤ 201 := by rw [ByteArray.size_append, e1]; omega
          generalize nodeStr x.nodes[k] = nd at NK HM hnl hnl2
          clear hc hr
          go_wp2_with (first
            | (go_at_call 91; refine NK.out.mono ?_; rintro e w1 ⟨rfl, hB1⟩)
            | fail)
          go_roundw
          case rel => exact ⟨k + 1, _, by omega, rfl, by go_num, by unfold Hid; rw [HM.out, catL_snoc, HK.out, show (ByteArray.mk #[10]) = bs [10] from rfl, bs_app, bs_app], hbel.trans (hB1.mono hsz)⟩
          case measure => simp [intOf] <;> omega
        · obtain rfl : k = x.nodes.length := by omega
          have SK := Lib.hid (SO.out wr hbel)
          have hlb := LM.out (spacedStr [111, 117, 116] x.outputs) (by rw [LE.out]; simp)
          have FIN : Hid (catL LI = catL (LT ++ x.nodes.map nodeStr) ++ (spacedStr [111, 117, 116] x.outputs ++ [10])) := by
            unfold Hid; rw [LE.out, HLT.out, ← catL_snoc]; simp
          have HK2 : Hid (s' = bs (catL (LT ++ x.nodes.map nodeStr))) := by have := HK.out; rwa [List.take_length] at this
          have FIN2 : Hid (bs (catL LI) = s' ++ bs (spacedStr [111, 117, 116] x.outputs ++ [10])) := by unfold Hid; rw [FIN.out, HK2.out, bs_app]
          go_wp2_with (first
            | (go_at_call 95; refine SK.out.mono ?_; rintro e w1 ⟨rfl, hB1⟩)
            | fail)
          go_ret
          exact ⟨by rw [HF.out, FIN2.out]; rfl, hbel.trans (hB1.mono hsz)⟩
end Go.Proofs.YtdcacmmglkcliaaGreatDoor
