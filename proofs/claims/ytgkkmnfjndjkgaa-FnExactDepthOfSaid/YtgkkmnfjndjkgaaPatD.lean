/-
  Patches: depths; contracts of both sides.
-/
import Derived.Test.YtgkkmnfjndjkgaaPatU
import Derived.StillTailTactics
namespace Go.Proofs.Ytgkkmnfjndjkgaa
open Go.ChangeShapes Go.WideShapes Go.ChangeAt Go.RowKit Go.Sort
set_option linter.unusedVariables false

theorem Calls.flip {P : Program} {f : FuncId} {args : Array Value} {w : World} {v : Value} (h : Calls P f args w fun e w' => e = .returned v ∧ w = w') : Calls P f args w fun e w' => e = .returned v ∧ w' = w :=
  h.mono fun _ _ ⟨a, b⟩ => ⟨a, b.symm⟩
theorem getD_atI {xs : List Int} {k : Nat} (h : k < xs.length) : xs.getD k 0 = xs[k] := by
  rw [List.getD_eq_getElem?_getD, List.getElem?_eq_getElem h]; rfl
theorem kAr_le3 : ∀ i, i < 17 → kAr i ≤ 3 := by decide
theorem src_le3 {x : NodeD} {t : Int} (h : nodeB x t = true) : x.src.length ≤ 3 := by
  unfold nodeB at h
  simp only [Bool.and_eq_true, decide_eq_true_eq] at h
  obtain ⟨i, hi, he⟩ := kind_of_in h.1.1.1.1
  have h1 := h.1.2
  rw [he, show ((i : Int) + 1 - 1).toNat = i by omega] at h1
  have := kAr_le3 i hi
  omega
theorem waits_le3 {x : NodeD} {t : Int} (h : nodeB x t = true) : (waits x).length ≤ 3 := by
  have := src_le3 h
  unfold waits
  split
  · simp
  · exact this
theorem dset_length (d : List Int) (o : Nat) (f : Int) : (dset d o f).length = d.length := by unfold dset; rw [List.length_set]
def bnd (d : List Int) (B : Int) : Prop := ∀ i, 0 ≤ d.getD i 0 ∧ d.getD i 0 ≤ B
theorem bnd_zero (n : Nat) : bnd (List.replicate n 0) 0 := by
  intro i
  have : (List.replicate n (0 : Int)).getD i 0 = 0 := by
    rw [List.getD_eq_getElem?_getD, List.getElem?_replicate]
    split <;> rfl
  rw [this]; omega
theorem bnd_set {d : List Int} {B : Int} (h : bnd d B) (o : Nat) (f : Int) : bnd (dset d o f) (B + 1) := by
  intro i
  have h1 := h i
  have h2 := h o
  have h3 := h f.toNat
  unfold dset
  rw [List.getD_eq_getElem?_getD, List.getElem?_set]
  by_cases e : o = i
  · rw [if_pos e]
    split
    · simp only [Option.getD_some]; omega
    · simp only [Option.getD_none]; omega
  · rw [if_neg e, ← List.getD_eq_getElem?_getD]; omega
theorem bnd_mono {d : List Int} {B B' : Int} (h : bnd d B) (hB : B ≤ B') : bnd d B' := fun i => by have := h i; omega
theorem dall_cons (d : List Int) (o : Nat) (f : Int) (fs : List Int) : dall d o (f :: fs) = dall (dset d o f) o fs := rfl
theorem drop_at {xs : List Int} {k : Nat} (h : k < xs.length) : xs.drop k = xs[k] :: xs.drop (k + 1) := List.drop_eq_getElem_cons h
def depthL (nodes : List NodeD) : List Int := depths nodes (List.replicate nodes.length 0) (orderL nodes)
def depthVal (x : PatchD) (node : Int) : Int := if askCode x node = 0 then (depthL x.nodes).getD node.toNat 0 else 0
theorem OwnI.rd_at {B : Nat} {w : World} {p : Option Addr} {n c : Nat} {xs : List Int} (h : OwnI B w (.slice p n c) xs) : n = xs.length ∧ RdI w p xs := by
  obtain ⟨q, d, e, hr⟩ := h.rd
  simp only [Value.slice.injEq] at e
  obtain ⟨rfl, rfl, -⟩ := e
  exact ⟨rfl, hr⟩
theorem OwnI.offAt {B g : Nat} {w w' : World} {v : Value} {xs : List Int} (h : OwnI B w v xs) (ho : Off (· = g) w w') (hg : g < B) : OwnI B w' v xs :=
  h.keep fun k hk => ho.block k (h.lt hk).2 (by have := (h.lt hk).1; show ¬ k = g; omega)
theorem Off.afterB {S : Nat → Prop} {w a b : World} (h : Off S w a) (hb : Below w.heap.size a b) : Off S w b :=
  ⟨hb.os.trans h.os, hb.tape.trans h.tape, hb.output.trans h.output, Nat.le_trans h.size hb.size, fun k hk hs => (hb.block k hk).trans (h.block k hk hs)⟩
/-- what a node waits for is the node's own slice, or nothing -/
theorem l07Waits_at {b o : Nat} {x : NodeD} {q : Option Addr} {d : Nat} (w : World) (z0 : w.cell? ⟨b, o, none⟩ = some (.int .i64 x.kind)) (z3 : w.cell? ⟨b, o + 3, none⟩ = some (.slice q x.src.length d)) :
    Calls Try.prog 69 #[.pointer (some ⟨b, o, none⟩)] w fun e w' => ∃ p c, e = .returned (.slice p (waits x).length c) ∧ (waits x = [] ∨ (waits x = x.src ∧ p = q)) ∧ Below w.heap.size w w' := by
  by_cases hk : x.kind = 6
  · have e : (x.kind == 6) = true := by rw [beq_iff_eq]; exact hk
    have HW : Hid (waits x = []) := by unfold Hid waits; rw [if_pos hk]
    clear hk
    have hB0 : Below w.heap.size w (w.alloc (.cells #[] 2)) := (Below.refl _ _).alloc (Nat.le_refl _) _
    go_enter Try.func69, Try.ntmps69
    go_wp2_with fail
    go_ret
    exact ⟨_, 0, by rw [HW.out]; rfl, .inl HW.out, hB0⟩
  · have e : (x.kind == 6) = false := by rw [beq_eq_false_iff_ne]; exact hk
    have HW : Hid (waits x = x.src) := by unfold Hid waits; rw [if_neg hk]
    clear hk
    go_enter Try.func69, Try.ntmps69
    go_wp2_with fail
    go_ret
    exact ⟨_, d, by rw [HW.out]; rfl, .inr ⟨HW.out, rfl⟩, Below.refl _ _⟩
theorem waitsFor_at {x : NodeD} {q : Option Addr} {d : Nat} (w : World) :
    Calls Try.prog 75 #[.agg #[.int .i64 x.kind, .int .i64 x.a, .int .i64 x.b, .slice q x.src.length d]] w fun e w' => ∃ p c, e = .returned (.slice p (waits x).length c) ∧ (waits x = [] ∨ (waits x = x.src ∧ p = q)) ∧ Below w.heap.size w w' := by
  have hB0 : Below w.heap.size w (w.alloc (.cells #[.int .i64 x.kind, .int .i64 x.a, .int .i64 x.b, .slice q x.src.length d] 65)) := (Below.refl _ _).alloc (Nat.le_refl _) _
  by_cases hk : x.kind = 6
  · have e : (x.kind == 6) = true := by rw [beq_iff_eq]; exact hk
    have HW : Hid (waits x = []) := by unfold Hid waits; rw [if_pos hk]
    clear hk
    go_enter Try.func75, Try.ntmps75
    go_wp2_with fail
    go_ret
    exact ⟨none, 0, by rw [HW.out]; rfl, .inl HW.out, hB0⟩
  · have e : (x.kind == 6) = false := by rw [beq_eq_false_iff_ne]; exact hk
    have HW : Hid (waits x = x.src) := by unfold Hid waits; rw [if_neg hk]
    clear hk
    go_enter Try.func75, Try.ntmps75
    go_wp2_with fail
    go_ret
    exact ⟨_, d, by rw [HW.out]; rfl, .inr ⟨HW.out, rfl⟩, hB0⟩
theorem depths_step {nodes : List NodeD} {d OL : List Int} {k m : Nat} (hk : k < OL.length) (hm : OL[k] = (m : Int)) (hn : m < nodes.length) : depths nodes d (OL.drop k) = depths nodes (dall d m (waits nodes[m])) (OL.drop (k + 1)) := by
  rw [drop_at hk, depths, hm, Int.toNat_natCast, getD_node hn]
theorem dall_step {d ws : List Int} {m j : Nat} (hj : j < ws.length) : dall d m (ws.drop j) = dall (dset d m ws[j]) m (ws.drop (j + 1)) := by rw [drop_at hj, dall_cons]
theorem dset_at {d : List Int} {m fn : Nat} (h1 : m < d.length) (h2 : fn < d.length) : dset d m (fn : Int) = d.set m (max d[m] (d[fn] + 1)) := by
  unfold dset; rw [Int.toNat_natCast, getD_atI h1, getD_atI h2]
set_option maxHeartbeats 6400000 in
set_option maxRecDepth 100000 in
theorem specDepthOf_v {v : Value} {x : PatchD} {node : Int} (w : World) (h : VPatch w v x) :
    Calls Try.prog 22 #[v, .int .i64 node] w fun e w' => e = .returned (.tuple #[.int .i64 (depthVal x node), .int .i64 (askCode x node)]) ∧ Below w.heap.size w w' := by
  obtain ⟨p1, c1, p2, c2, p3, c3, rfl, hp⟩ := PPatch.of h
  have hB0 : Below w.heap.size w (w.alloc (.cells #[.int .i64 x.inputs, .slice p1 x.tables.length c1, .slice p2 x.nodes.length c2, .slice p3 x.outputs.length c3] 31)) := (Below.refl _ _).alloc (Nat.le_refl _) _
  generalize hE : w.alloc (.cells #[.int .i64 x.inputs, .slice p1 x.tables.length c1, .slice p2 x.nodes.length c2, .slice p3 x.outputs.length c3] 31) = E0 at *
  have HE := Lib.hid hE.symm
  clear hE h
  have AS := Lib.hid (l07Ask_any node E0 hp)
  by_cases hc : askCode x node = 0
  case neg =>
    have hd : depthVal x node = 0 := by unfold depthVal; rw [if_neg hc]
    rw [hd]
    have q : (askCode x node != 0) = true := by rw [bne_iff_ne]; exact hc
    generalize askCode x node = C at AS q ⊢
    clear hc hd
    go_enter Try.func22, Try.ntmps22
    go_upto_region 1 with fail
    rw [← HE.out]
    go_wp2_with (go_at_call 67; refine AS.out.mono ?_; rintro e W1 ⟨rfl, hb1⟩)
    refine bodyPost_ret (v := .tuple #[.int .i64 0, .int .i64 C]) (by simp [results, Try.results22, go_sem, *]) rfl ?_
    exact ⟨rfl, hB0.trans (hb1.mono hB0.size)⟩
  have hok := (askCode_zero.1 hc).1
  have hin := inB_iff.1 (askCode_zero.1 hc).2
  obtain ⟨hfm, hol, hn24⟩ := okB_len hok
  have hd : depthVal x node = (depthL x.nodes).getD node.toNat 0 := by unfold depthVal; rw [if_pos hc]
  rw [hd, hc]
  rw [hc] at AS
  have HW3 : Hid (∀ (i : Nat) (h : i < x.nodes.length), (waits x.nodes[i]).length ≤ 3 ∧ ∀ f ∈ waits x.nodes[i], 0 ≤ f ∧ f < (x.nodes.length : Int)) := fun i hi => by
    have h1 := (formed_iff.1 hfm).2.2.2.2.1 _ (List.getElem_mem hi)
    have h2 : nodeB x.nodes[i] (x.tables.length : Int) = true := by
      unfold ndB at h1; simp only [Bool.and_eq_true] at h1; exact h1.1.1
    exact ⟨waits_le3 h2, fun f hf => ndB_src h1 f (waits_src hf)⟩
  have HOM : Hid (∀ o ∈ orderL x.nodes, 0 ≤ o ∧ o < (x.nodes.length : Int)) := orderL_mem
  have HOL := Lib.hid hol
  obtain ⟨nn, rfl⟩ : ∃ nn : Nat, node = nn := ⟨node.toNat, by omega⟩
  have hnn : nn < x.nodes.length := by omega
  rw [Int.toNat_natCast]
  have HDL : Hid (depths x.nodes (List.replicate x.nodes.length 0) (orderL x.nodes) = depthL x.nodes) := rfl
  have HORD := Lib.hid (fun W hW => l07Order_any W (hp.below hW) hfm)
  generalize depthL x.nodes = DL at HDL ⊢
  clear hc hok hin hfm hol hd
  go_enter Try.func22, Try.ntmps22
  go_upto_region 1 with fail
  rw [← HE.out]
  go_wp2_with fail
  refine AS.out.mono ?_
  rintro e W1 ⟨rfl, hb1⟩
  have hB1 := hB0.trans (hb1.mono hB0.size)
  have hp1 := hp.below hb1
  obtain ⟨g, hg⟩ : ∃ g, g = w.heap.size := ⟨_, rfl⟩
  rw [← hg] at hp1 HORD ⊢
  have HG := Lib.hid hg
  clear hg HE AS hp
  obtain ⟨q1, e1, q2, e2, q3, e3, bx, -, r2, -⟩ := hp1
  have hmk := fun W => run_make_row' (P := Try.prog) 24 2 (.int .i64 0) 8 Try.underlying24 infoI rfl .i64 .i64 x.nodes.length (by omega) (by omega) W
  have h0 := OwnI.made (B := W1.heap.size) W1 x.nodes.length (Nat.le_refl _) (by unfold maxLen; omega)
  obtain ⟨D, hD⟩ : ∃ D, D = W1.heap.size := ⟨_, rfl⟩
  obtain ⟨W2, hW2⟩ : ∃ W, W = W1.alloc (.cells (madeCells #[.int .i64 0] x.nodes.length) 2) := ⟨_, rfl⟩
  have hb2 : Below W1.heap.size W1 W2 := by rw [hW2]; exact (Below.refl _ _).alloc (Nat.le_refl _) _
  have hs2 : W2.heap.size = D + 1 := by rw [hW2, hD]; simp
  rw [← hW2, ← hD] at h0
  have HW2 := Lib.hid hW2
  have HD := Lib.hid hD
  have z2 := bx.cell 2 rfl
  have hgD : g < D := by rw [hD]; exact bx.lt
  clear hW2 hD
  go_wp2_with fail
  rw [← HW2.out, ← HD.out]
  refine (HORD.out W2 (hb1.trans (hb2.mono hb1.size))).mono ?_
  rintro e W3 ⟨u, rfl, ho, hb3⟩
  rw [if_pos HOL.out] at ho
  rw [decide_eq_true HOL.out]
  rw [hs2] at ho
  have hb3' : Below (D + 1) W2 W3 := by rw [← hs2]; exact hb3
  have h03 := h0.below hb3
  have hB13 : Below D W1 W3 := by rw [HD.out]; exact hb2.trans (hb3.mono hb2.size)
  have hs3 : D + 1 ≤ W3.heap.size := by rw [← hs2]; exact hb3.size
  have hh := ho
  obtain ⟨op, oc, rfl, -⟩ := hh.rd
  generalize orderL x.nodes = OL at ho HOM HOL HDL ⊢
  have hOLn : OL.length ≤ 24 := by have := HOL.out; omega
  clear hh h0 hb3 hb3' hb2 HW2 z2 HORD hb1 hs2 hmk
  go_wp2_with fail
  go_loopw [10] (fun i wr => ∃ k : Nat, k ≤ OL.length ∧ i = .int .i64 k ∧ ∃ d : List Int, Hid (d.length = x.nodes.length) ∧ bnd d (3 * (k : Int)) ∧ Hid (depths x.nodes d (OL.drop k) = DL) ∧ OwnI D wr (.slice (some ⟨D, 0, none⟩) x.nodes.length x.nodes.length) d ∧ Off (· = D) W3 wr) (fun i _ => OL.length - (intOf i).toNat)
  case atStart => exact ⟨0, Nat.zero_le _, rfl, _, List.length_replicate, bnd_zero _, HDL.out, h03, Off.refl _ _⟩
  case round =>
    obtain ⟨k, hk, rfl, d, HDN, hbd, HDD, hown, hof⟩ := hrel
    clear h03
    obtain ⟨wi, rfl⟩ : ∃ wi : World, wi = wr := ⟨_, rfl⟩
    have hBi : Below W1.heap.size W1 wi := by rw [← HD.out]; exact hB13.trans (hof.below (B := D) (fun j hj => by have : j = D := hj; omega) (by omega))
    have bx1 := bx.below hBi
    have z2 := bx1.cell 2 rfl
    by_cases hlt : k < OL.length
    · have hoi := ho.offAt hof (by omega)
      obtain ⟨-, hro⟩ := (show OwnI (D + 1) wi (.slice op OL.length oc) OL from hoi).rd_at
      obtain ⟨ob, oo, e, hobl, hoc⟩ := hro.pos hlt
      cases e
      have hok := hoc k hlt
      have hmem := HOM.out _ (List.getElem_mem hlt)
      obtain ⟨m, hm⟩ : ∃ m : Nat, OL[k] = m := ⟨OL[k].toNat, by omega⟩
      rw [hm] at hok hmem
      have hmn : m < x.nodes.length := by omega
      have HDS := Lib.hid (depths_step (d := d) hlt hm hmn)
      have HMK := Lib.hid hm
      obtain ⟨b, o, e, hbl, hc⟩ := r2.pos hmn
      cases e
      obtain ⟨y0, -, -, q, dd, y3, hr⟩ := hc m hmn
      obtain ⟨hw3, hwf⟩ := HW3.out m hmn
      have HWF := Lib.hid hwf
      have Y0 := (hBi.cell (p := ⟨b, o + m * 4, none⟩) hbl).trans y0
      have Y3 := (hBi.cell (p := ⟨b, o + m * 4 + 3, none⟩) hbl).trans y3
      have hbi : b < wi.heap.size := Nat.lt_of_lt_of_le hbl hBi.size
      generalize hnd : x.nodes[m] = nd at *
      have KW : Hid (∀ W, Below wi.heap.size wi W → Calls Try.prog 69 #[.pointer (some ⟨b, o + m * 4, none⟩)] W fun e w' => ∃ p c, e = .returned (.slice p (waits nd).length c) ∧ Hid (∀ W', Below W1.heap.size W1 W' → RdI W' p (waits nd)) ∧ Below W.heap.size W w') := fun W hW =>
        (l07Waits_at (x := nd) W ((hW.cell (p := ⟨b, o + m * 4, none⟩) hbi).trans Y0) ((hW.cell (p := ⟨b, o + m * 4 + 3, none⟩) hbi).trans Y3)).mono fun e w' ⟨p, c, he, hq, hb⟩ => ⟨p, c, he, fun W' hW' => by
          rcases hq with h | ⟨h, rfl⟩
          · rw [h]; exact RdI.nil _ _
          · rw [h]; exact hr.below hW', hb⟩
      clear hoc hc hnd y0 y3 Y0 Y3 hr hm hmem hwf hoi hro bx1
      have hgl : g < wi.heap.size := by have := hBi.size; have := HD.out; omega
      have hobi := hobl
      go_wp2_with fail
      go_cut [11] (fun v wr => ∃ p c, v = .slice p (waits nd).length c ∧ Hid (∀ W', Below W1.heap.size W1 W' → RdI W' p (waits nd)) ∧ Below wi.heap.size wi wr)
      case first =>
        have hcur := belowDrew wi
        go_region_held3 (fun W => W.cell? ⟨g, 2, none⟩ = some (.slice (some ⟨b, o, none⟩) x.nodes.length e2) ∧ W.cell? ⟨ob, oo + k, none⟩ = some (.int .i64 (m : Int))) (first | go_keep | exact ⟨(hcur.cell (p := ⟨g, 2, none⟩) hgl).trans z2, (hcur.cell (p := ⟨ob, oo + k, none⟩) hobi).trans hok⟩) ((go_at_call 69; refine (KW.out _ hcur).mono ?_; rintro e F ⟨wp, wcc, rfl, hwr, hb⟩; have hcur := hcur.trans (hb.mono hcur.size)))
        all_goals (go_wp2_with fail; go_meet; exact ⟨_, _, rfl, hwr, hcur⟩)
      case rest =>
        obtain ⟨wp, wcap, rfl, HWR, hbw⟩ := hcut
        obtain ⟨E1, rfl⟩ : ∃ E, E = wc := ⟨_, rfl⟩
        have hofE := hof.afterB (hbw.mono hof.size)
        have hownE := hown.below hbw
        have hBE := hBi.trans (hbw.mono hBi.size)
        clear KW hbw hown hof z2 hok hBi
        go_wp2_with fail
        go_loopw [12] (fun i wr => ∃ j : Nat, j ≤ (waits nd).length ∧ i = .int .i64 j ∧ ∃ d' : List Int, Hid (d'.length = x.nodes.length) ∧ bnd d' (3 * (k : Int) + j) ∧ Hid (dall d' m ((waits nd).drop j) = dall d m (waits nd)) ∧ OwnI D wr (.slice (some ⟨D, 0, none⟩) x.nodes.length x.nodes.length) d' ∧ Off (· = D) E1 wr) (fun i _ => (waits nd).length - (intOf i).toNat)
        case atStart => exact ⟨0, Nat.zero_le _, rfl, d, HDN, by simpa using hbd, rfl, hownE, Off.refl _ _⟩
        case round =>
          obtain ⟨j, hj, rfl, d', HDN', hbd', HDA, hown', hof'⟩ := hrel
          clear hownE
          obtain ⟨wj, rfl⟩ : ∃ wj : World, wj = wr := ⟨_, rfl⟩
          by_cases hlt2 : j < (waits nd).length
          · have hBj : Below W1.heap.size W1 wj := hBE.trans (hof'.below (fun x hx => by have : x = D := hx; have := HD.out; omega) (by have := hBE.size; omega))
            obtain ⟨b2, o2, e, hbl2, hc2⟩ := (HWR.out wj hBj).pos hlt2
            cases e
            have hck := hc2 j hlt2
            have hfm := HWF.out _ (List.getElem_mem hlt2)
            have HDJ := Lib.hid (dall_step (d := d') (m := m) hlt2)
            generalize (waits nd)[j] = fi at hck hfm HDJ
            obtain ⟨fn, rfl⟩ : ∃ fn : Nat, fi = fn := ⟨fi.toNat, by omega⟩
            have hfn : fn < x.nodes.length := by omega
            have hoj := (ho.offAt hofE (by omega)).offAt hof' (by omega)
            obtain ⟨-, hro⟩ := hoj.rd_at
            obtain ⟨ob3, oo3, e, hobl3, hoc⟩ := hro.pos hlt
            cases e
            have hok := hoc k hlt
            have hokk : wj.cell? ⟨ob, oo + k, none⟩ = some (.int .i64 (m : Int)) := by rw [hok, HMK.out]
            have hml : m < d'.length := by rw [HDN'.out]; exact hmn
            have hfl : fn < d'.length := by rw [HDN'.out]; exact hfn
            obtain ⟨-, -, hDl, hzm, hfz, hset⟩ := hown'.storing (k := m) hml
            obtain ⟨-, -, -, hzf, -, -⟩ := hown'.storing (k := fn) hfl
            have hB1' := hbd' m
            have hB2' := hbd' fn
            rw [getD_atI hml] at hB1'
            rw [getD_atI hfl] at hB2'
            have HSET : Hid (dset d' m (fn : Int) = d'.set m (max d'[m] (d'[fn] + 1))) := dset_at hml hfl
            have HBN := Lib.hid (bnd_set hbd' m (fn : Int))
            generalize d'[m] = am at hzm hB1' HSET
            generalize d'[fn] = af at hzf hB2' HSET
            have hs1 := hB1'.1
            have hs2 := hB1'.2
            have hs3 := hB2'.1
            have hs4 := hB2'.2
            have HSTT := Lib.hid hset
            clear hoc hok hc2 hfm hml hfl hB1' hB2' hro hoj hset hbd'
            go_wp2_with fail
            refine wp_region_still_tail 21 (by kernel_rfl) (by kernel_rfl) ?_
            simp only [List.take_succ_cons, List.take_zero, List.drop_succ_cons, List.drop_zero]
            change wpStill _ _ (World.drew _) _ _ _
            repeat (first | still_step | (refine wpStill_step (fun K hK => ?_); go_simp; refine ⟨_, (by exact Calls.flip (l00Max_any _ _ _)), hK _ ?_⟩; clear hK K))
            refine wpStill_nil ?_
            change wpList _ _ _ _ _ (World.drew _)
            go_wp2_with fail
            go_roundw
            case rel =>
              refine ⟨j + 1, by omega, by go_num, dset d' m (fn : Int), ?_, ?_, ?_, ?_, hof'.trans ⟨rfl, rfl, rfl, by simp [World.setCell, World.drew], fun b hb hs => Below.heap_setCell _ _ _ _ hs⟩⟩
              · show (dset d' m (fn : Int)).length = _; rw [dset_length]; exact HDN'.out
              · have := HBN.out; simpa [Int.add_assoc] using this
              · unfold Hid; rw [← HDA.out, HDJ.out]
              · have h1 := HSTT.out (max am (af + 1))
                rw [← HSET.out] at h1
                rw [show (1 : Int) + af = af + 1 by omega]
                exact h1
            case measure => simp [intOf] <;> omega
          · obtain rfl : j = (waits nd).length := by omega
            have HDE : Hid (d' = dall d m (waits nd)) := by
              unfold Hid; rw [← HDA.out, List.drop_length]; rfl
            go_wp2_with fail
            go_roundw
            case rel => exact ⟨k + 1, by omega, by go_num, d', HDN', bnd_mono hbd' (by omega), by unfold Hid; rw [HDE.out, ← HDS.out]; exact HDD.out, hown', hofE.trans hof'⟩
            case measure => simp [intOf] <;> omega
    · obtain rfl : k = OL.length := by omega
      have HDF : Hid (d = DL) := by
        have := HDD.out
        rw [List.drop_length] at this
        exact this
      have hnl : nn < d.length := by rw [HDN.out]; exact hnn
      obtain ⟨-, -, hDl, hzm, -, -⟩ := hown.storing (k := nn) hnl
      have HVAL : Hid (DL.getD nn 0 = d[nn]) := by unfold Hid; rw [← HDF.out, getD_atI hnl]
      generalize d[nn] = val at hzm HVAL
      go_wp2_with fail
      refine bodyPost_ret (v := .tuple #[.int .i64 val, .int .i64 0]) (by simp [results, Try.results22, go_sem, *]) rfl ?_
      exact ⟨by rw [HVAL.out], hB1.trans (hBi.mono hB1.size)⟩
set_option maxHeartbeats 6400000 in
set_option maxRecDepth 100000 in
theorem implDepthOf_v {v : Value} {x : PatchD} {node : Int} (w : World) (h : VPatch w v x) :
    Calls Try.prog 23 #[v, .int .i64 node] w fun e w' => e = .returned (.tuple #[.int .i64 (depthVal x node), .int .i64 (askCode x node)]) ∧ Below w.heap.size w w' := by
  have hv := h
  obtain ⟨p1, c1, p2, c2, p3, c3, rfl, r1, r2, r3⟩ := h
  have hB0 : Below w.heap.size w (w.alloc (.cells #[.int .i64 x.inputs, .slice p1 x.tables.length c1, .slice p2 x.nodes.length c2, .slice p3 x.outputs.length c3] 31)) := (Below.refl _ _).alloc (Nat.le_refl _) _
  have bx := Box.newAt w [.int .i64 x.inputs, .slice p1 x.tables.length c1, .slice p2 x.nodes.length c2, .slice p3 x.outputs.length c3] 31 rfl
  have hm2 := r2.len
  generalize hE : w.alloc (.cells #[.int .i64 x.inputs, .slice p1 x.tables.length c1, .slice p2 x.nodes.length c2, .slice p3 x.outputs.length c3] 31) = E0 at *
  have HE := Lib.hid hE.symm
  clear hE r1 r3
  have AS := Lib.hid (nodeCode_v node E0 (hv.below hB0))
  obtain ⟨g, hg⟩ : ∃ g, g = w.heap.size := ⟨_, rfl⟩
  rw [← hg] at bx
  have HG := Lib.hid hg
  clear hg
  have z0 := bx.cell 0 rfl
  have z1 := bx.cell 1 rfl
  have z2 := bx.cell 2 rfl
  have z3 := bx.cell 3 rfl
  by_cases hc : askCode x node = 0
  case neg =>
    have hd : depthVal x node = 0 := by unfold depthVal; rw [if_neg hc]
    rw [hd]
    have q : (askCode x node != 0) = true := by rw [bne_iff_ne]; exact hc
    generalize askCode x node = C at AS q ⊢
    clear hc hd
    go_enter Try.func23, Try.ntmps23
    go_upto_region 1 with fail
    rw [← HE.out, ← HG.out]
    go_wp2_with (go_at_call 71; refine AS.out.mono ?_; rintro e W1 ⟨rfl, hb1⟩)
    refine bodyPost_ret (v := .tuple #[.int .i64 0, .int .i64 C]) (by simp [results, Try.results23, go_sem, *]) rfl ?_
    exact ⟨rfl, hB0.trans (hb1.mono hB0.size)⟩
  have hok := (askCode_zero.1 hc).1
  have hin := inB_iff.1 (askCode_zero.1 hc).2
  obtain ⟨hfm, hol, hn24⟩ := okB_len hok
  have hd : depthVal x node = (depthL x.nodes).getD node.toNat 0 := by unfold depthVal; rw [if_pos hc]
  rw [hd, hc]
  rw [hc] at AS
  have HW3 : Hid (∀ (i : Nat) (h : i < x.nodes.length), (waits x.nodes[i]).length ≤ 3 ∧ ∀ f ∈ waits x.nodes[i], 0 ≤ f ∧ f < (x.nodes.length : Int)) := fun i hi => by
    have h1 := (formed_iff.1 hfm).2.2.2.2.1 _ (List.getElem_mem hi)
    have h2 : nodeB x.nodes[i] (x.tables.length : Int) = true := by
      unfold ndB at h1; simp only [Bool.and_eq_true] at h1; exact h1.1.1
    exact ⟨waits_le3 h2, fun f hf => ndB_src h1 f (waits_src hf)⟩
  have HOM : Hid (∀ o ∈ orderL x.nodes, 0 ≤ o ∧ o < (x.nodes.length : Int)) := orderL_mem
  have HOL := Lib.hid hol
  obtain ⟨nn, rfl⟩ : ∃ nn : Nat, node = nn := ⟨node.toNat, by omega⟩
  have hnn : nn < x.nodes.length := by omega
  rw [Int.toNat_natCast]
  have HDL : Hid (depths x.nodes (List.replicate x.nodes.length 0) (orderL x.nodes) = depthL x.nodes) := rfl
  have HORD : Hid (∀ W, Below E0.heap.size E0 W → Calls Try.prog 74 #[.agg #[.int .i64 x.inputs, .slice p1 x.tables.length c1, .slice p2 x.nodes.length c2, .slice p3 x.outputs.length c3]] W fun e w' => ∃ u, e = .returned u ∧ OwnI W.heap.size w' u (orderL x.nodes) ∧ Below W.heap.size W w') := fun W hW => order_v W (hv.below (hB0.trans (hW.mono hB0.size))) hfm
  have SZ : Hid (∀ W, Calls Try.prog 73 #[.slice p2 x.nodes.length c2] W fun e w' => e = .returned (.int .i64 (x.nodes.length : Int)) ∧ W = w') := fun W => sizeN_any p2 x.nodes.length c2 W hm2
  generalize depthL x.nodes = DL at HDL ⊢
  clear hc hok hin hfm hol hd hv hm2
  go_enter Try.func23, Try.ntmps23
  go_upto_region 1 with fail
  rw [← HE.out, ← HG.out]
  go_wp2_with fail
  refine AS.out.mono ?_
  rintro e W1 ⟨rfl, hb1⟩
  have hB1 := hB0.trans (hb1.mono hB0.size)
  replace bx := bx.below hb1
  replace r2 := r2.below hB1
  clear AS HE z0 z1 z2 z3
  have z2 := bx.cell 2 rfl
  go_wp2_with (go_at_call 73; refine (SZ.out _).mono ?_; rintro e w' ⟨rfl, rfl⟩)
  refine (zeros_any x.nodes.length W1 (by omega)).mono ?_
  rintro e W2 ⟨dv, rfl, h0, hb2⟩
  rcases h0.cases with ⟨-, e0⟩ | ⟨D, dcap, rfl, hDB, hDl, -, -⟩
  · have := congrArg List.length e0
    rw [List.length_replicate, List.length_nil] at this
    omega
  rw [List.length_replicate] at h0 ⊢
  have bx2 := bx.below hb2
  have y0 := bx2.cell 0 rfl
  have y1 := bx2.cell 1 rfl
  have y2 := bx2.cell 2 rfl
  have y3 := bx2.cell 3 rfl
  go_wp2_with fail
  refine (HORD.out W2 (hb1.trans (hb2.mono hb1.size))).mono ?_
  rintro e W3 ⟨u, rfl, ho, hb3⟩
  have h03 := h0.below hb3
  have hB13 : Below W1.heap.size W1 W3 := hb2.trans (hb3.mono hb2.size)
  have hh := ho
  obtain ⟨op, oc, rfl, -⟩ := hh.rd
  generalize orderL x.nodes = OL at ho HOM HOL HDL ⊢
  have hOLn : OL.length ≤ 24 := by have := HOL.out; omega
  have hs3 := hb3.size
  clear hh h0 hb3 hb2 z2 HORD hb1 y0 y1 y2 y3 bx2 SZ
  go_wp2_with fail
  go_loopw [25] (fun i wr => ∃ k : Nat, k ≤ OL.length ∧ i = .int .i64 k ∧ ∃ d : List Int, Hid (d.length = x.nodes.length) ∧ bnd d (3 * (k : Int)) ∧ Hid (depths x.nodes d (OL.drop k) = DL) ∧ OwnI W1.heap.size wr (.slice (some ⟨D, 0, none⟩) x.nodes.length dcap) d ∧ Off (· = D) W3 wr) (fun i _ => OL.length - (intOf i).toNat)
  case atStart => exact ⟨0, Nat.zero_le _, rfl, _, List.length_replicate, bnd_zero _, HDL.out, h03, Off.refl _ _⟩
  case round =>
    obtain ⟨k, hk, rfl, d, HDN, hbd, HDD, hown, hof⟩ := hrel
    clear h03
    obtain ⟨wi, rfl⟩ : ∃ wi : World, wi = wr := ⟨_, rfl⟩
    have hBi : Below W1.heap.size W1 wi := hB13.trans (hof.below (fun j hj => by have : j = D := hj; omega) hB13.size)
    have bx1 := bx.below hBi
    have z2 := bx1.cell 2 rfl
    by_cases hlt : k < OL.length
    · have hoi := ho.offAt hof hDl
      obtain ⟨-, hro⟩ := hoi.rd_at
      obtain ⟨ob, oo, e, hobl, hoc⟩ := hro.pos hlt
      cases e
      have hok := hoc k hlt
      have hmem := HOM.out _ (List.getElem_mem hlt)
      obtain ⟨m, hm⟩ : ∃ m : Nat, OL[k] = m := ⟨OL[k].toNat, by omega⟩
      rw [hm] at hok hmem
      have hmn : m < x.nodes.length := by omega
      have HDS := Lib.hid (depths_step (d := d) hlt hm hmn)
      obtain ⟨b, o, e, hbl, hc⟩ := r2.pos hmn
      cases e
      obtain ⟨y0, y1, y2, q, dd, y3, hr⟩ := hc m hmn
      obtain ⟨hw3, hwf⟩ := HW3.out m hmn
      have HWF := Lib.hid hwf
      have Y0 := (hBi.cell (p := ⟨b, o + m * 4, none⟩) hbl).trans y0
      have Y1 := (hBi.cell (p := ⟨b, o + m * 4 + 1, none⟩) hbl).trans y1
      have Y2 := (hBi.cell (p := ⟨b, o + m * 4 + 2, none⟩) hbl).trans y2
      have Y3 := (hBi.cell (p := ⟨b, o + m * 4 + 3, none⟩) hbl).trans y3
      generalize hnd : x.nodes[m] = nd at *
      have KW : Hid (Calls Try.prog 75 #[.agg #[.int .i64 nd.kind, .int .i64 nd.a, .int .i64 nd.b, .slice q nd.src.length dd]] wi fun e w' => ∃ p c, e = .returned (.slice p (waits nd).length c) ∧ Hid (∀ W', Below W1.heap.size W1 W' → RdI W' p (waits nd)) ∧ Below wi.heap.size wi w') :=
        (waitsFor_at (x := nd) (q := q) (d := dd) wi).mono fun e w' ⟨p, c, he, hq, hb⟩ => ⟨p, c, he, fun W' hW' => by
          rcases hq with h | ⟨h, rfl⟩
          · rw [h]; exact RdI.nil _ _
          · rw [h]; exact hr.below hW', hb⟩
      clear hoc hc hnd y0 y1 y2 y3 hr hm hmem hwf hoi hro bx1
      go_wp2_with fail
      refine KW.out.mono ?_
      rintro e E1 ⟨wp, wcap, rfl, HWR, hbw⟩
      have hofE := hof.afterB (hbw.mono hof.size)
      have hownE := hown.below hbw
      have hBE := hBi.trans (hbw.mono hBi.size)
      clear KW hbw hown hof z2 hok hBi Y0 Y1 Y2 Y3
      go_wp2_with fail
      go_loopw [36] (fun i wr => ∃ j : Nat, j ≤ (waits nd).length ∧ i = .int .i64 j ∧ ∃ d' : List Int, Hid (d'.length = x.nodes.length) ∧ bnd d' (3 * (k : Int) + j) ∧ Hid (dall d' m ((waits nd).drop j) = dall d m (waits nd)) ∧ OwnI W1.heap.size wr (.slice (some ⟨D, 0, none⟩) x.nodes.length dcap) d' ∧ Off (· = D) E1 wr) (fun i _ => (waits nd).length - (intOf i).toNat)
      case atStart => exact ⟨0, Nat.zero_le _, rfl, d, HDN, by simpa using hbd, rfl, hownE, Off.refl _ _⟩
      case round =>
        obtain ⟨j, hj, rfl, d', HDN', hbd', HDA, hown', hof'⟩ := hrel
        clear hownE
        obtain ⟨wj, rfl⟩ : ∃ wj : World, wj = wr := ⟨_, rfl⟩
        by_cases hlt2 : j < (waits nd).length
        · have hBj : Below W1.heap.size W1 wj := hBE.trans (hof'.below (fun x hx => by have : x = D := hx; omega) hBE.size)
          obtain ⟨b2, o2, e, hbl2, hc2⟩ := (HWR.out wj hBj).pos hlt2
          cases e
          have hck := hc2 j hlt2
          have hfm := HWF.out _ (List.getElem_mem hlt2)
          have HDJ := Lib.hid (dall_step (d := d') (m := m) hlt2)
          generalize (waits nd)[j] = fi at hck hfm HDJ
          obtain ⟨fn, rfl⟩ : ∃ fn : Nat, fi = fn := ⟨fi.toNat, by omega⟩
          have hfn : fn < x.nodes.length := by omega
          have hml : m < d'.length := by rw [HDN'.out]; exact hmn
          have hfl : fn < d'.length := by rw [HDN'.out]; exact hfn
          obtain ⟨-, -, hDl2, hzm, hfz, hset⟩ := hown'.storing (k := m) hml
          obtain ⟨-, -, -, hzf, -, -⟩ := hown'.storing (k := fn) hfl
          have hB1' := hbd' m
          have hB2' := hbd' fn
          rw [getD_atI hml] at hB1'
          rw [getD_atI hfl] at hB2'
          have HSET : Hid (dset d' m (fn : Int) = d'.set m (max d'[m] (d'[fn] + 1))) := dset_at hml hfl
          have HBN := Lib.hid (bnd_set hbd' m (fn : Int))
          generalize d'[m] = am at hzm hB1' HSET
          generalize d'[fn] = af at hzf hB2' HSET
          have hs1 := hB1'.1
          have hs2 := hB1'.2
          have hs3 := hB2'.1
          have hs4 := hB2'.2
          have HSTT := Lib.hid hset
          clear hc2 hfm hml hfl hB1' hB2' hset hbd'
          go_wp2_with fail
          refine wp_region_still_tail 12 (by kernel_rfl) (by kernel_rfl) ?_
          simp only [List.take_succ_cons, List.take_zero, List.drop_succ_cons, List.drop_zero]
          change wpStill _ _ (World.drew _) _ _ _
          repeat (first | still_step | (refine wpStill_step (fun K hK => ?_); go_simp; refine ⟨_, (by fail), hK _ ?_⟩; clear hK K))
          refine wpStill_nil ?_
          change wpList _ _ _ _ _ (World.drew _)
          go_wp2_with fail
          go_roundw
          case rel =>
            refine ⟨j + 1, by omega, by go_num, dset d' m (fn : Int), ?_, ?_, ?_, ?_, hof'.trans ⟨rfl, rfl, rfl, by simp [World.setCell, World.drew], fun b hb hs => Below.heap_setCell _ _ _ _ hs⟩⟩
            · show (dset d' m (fn : Int)).length = _; rw [dset_length]; exact HDN'.out
            · have := HBN.out; simpa [Int.add_assoc] using this
            · unfold Hid; rw [← HDA.out, HDJ.out]
            · have h1 := HSTT.out (max am (af + 1))
              rw [← HSET.out] at h1
              rw [show (if am < af + 1 then af + 1 else am) = max am (af + 1) by split <;> omega]
              exact h1
          case measure => simp [intOf] <;> omega
        · obtain rfl : j = (waits nd).length := by omega
          have HDE : Hid (d' = dall d m (waits nd)) := by
            unfold Hid; rw [← HDA.out, List.drop_length]; rfl
          go_wp2_with fail
          go_roundw
          case rel => exact ⟨k + 1, by omega, by go_num, d', HDN', bnd_mono hbd' (by omega), by unfold Hid; rw [HDE.out, ← HDS.out]; exact HDD.out, hown', hofE.trans hof'⟩
          case measure => simp [intOf] <;> omega
    · obtain rfl : k = OL.length := by omega
      have HDF : Hid (d = DL) := by
        have := HDD.out
        rw [List.drop_length] at this
        exact this
      have hnl : nn < d.length := by rw [HDN.out]; exact hnn
      obtain ⟨-, -, hDl2, hzm, -, -⟩ := hown.storing (k := nn) hnl
      have HVAL : Hid (DL.getD nn 0 = d[nn]) := by unfold Hid; rw [← HDF.out, getD_atI hnl]
      generalize d[nn] = val at hzm HVAL
      go_wp2_with fail
      refine bodyPost_ret (v := .tuple #[.int .i64 val, .int .i64 0]) (by simp [results, Try.results23, go_sem, *]) rfl ?_
      exact ⟨by rw [HVAL.out], hB1.trans (hBi.mono hB1.size)⟩
end Go.Proofs.Ytgkkmnfjndjkgaa
