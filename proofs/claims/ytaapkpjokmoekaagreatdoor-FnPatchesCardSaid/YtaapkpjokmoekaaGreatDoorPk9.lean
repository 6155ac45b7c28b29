/-
  Several texts in one: ChainM, RnC, RnK, RnO, PatU, Queue, Put, Need, Need2, Keep, TrimS.
-/
import Derived.Test.YtaapkpjokmoekaaGreatDoorPk8
import Derived.Test.YtaapkpjokmoekaaGreatDoorPk4
import Derived.Test.YtaapkpjokmoekaaGreatDoorPk6
import Derived.Test.YtaapkpjokmoekaaGreatDoorPk5
import Derived.Test.YtaapkpjokmoekaaGreatDoorPk3
import Derived.Deep.AppendSrc
import Derived.Deep.Upon
import Derived.Deep.MidRow
import Derived.Test.YtaapkpjokmoekaaGreatDoorPk1
namespace Go.Proofs.YtaapkpjokmoekaaGreatDoor
open Go.ChangeShapes Go.WideShapes Go.ChangeAt Go.RowKit
set_option linter.unusedVariables false

/-- the place that each node of the second patch gets; a: the next free place -/
def chBy (outs : List Int) : Nat → List NodeD → List Int
  | _, [] => []
  | a, n :: ns => if n.kind = 1 then outs.getD n.a.toNat 0 :: chBy outs a ns else (a : Int) :: chBy outs (a + 1) ns
def chCnt : Nat → List NodeD → Nat
  | a, [] => a
  | a, n :: ns => if n.kind = 1 then chCnt a ns else chCnt (a + 1) ns
def chN (t : Int) (by_ : List Int) (n : NodeD) : NodeD := ⟨n.kind, if n.kind = 13 then n.a + t else n.a, n.b, mapL by_ n.src⟩
def chNs (t : Int) (by_ : List Int) : List NodeD → List NodeD
  | [] => []
  | n :: ns => if n.kind = 1 then chNs t by_ ns else chN t by_ n :: chNs t by_ ns
def chainBy (p q : PatchD) : List Int := chBy p.outputs p.nodes.length q.nodes
def chainP (p q : PatchD) : PatchD := ⟨p.inputs, p.tables ++ q.tables, p.nodes ++ chNs p.tables.length (chainBy p q) q.nodes, mapL (chainBy p q) q.outputs⟩
theorem chBy_length : ∀ (outs : List Int) (a : Nat) (ns : List NodeD), (chBy outs a ns).length = ns.length
  | _, _, [] => rfl
  | outs, a, n :: ns => by
    unfold chBy
    split
    · rw [List.length_cons, chBy_length, List.length_cons]
    · rw [List.length_cons, chBy_length, List.length_cons]
theorem chNs_length : ∀ (t : Int) (by_ : List Int) (a : Nat) (ns : List NodeD), a + (chNs t by_ ns).length = chCnt a ns
  | _, _, _, [] => rfl
  | t, by_, a, n :: ns => by
    unfold chNs chCnt
    split
    · exact chNs_length t by_ a ns
    · rw [List.length_cons, ← chNs_length t by_ (a + 1) ns]; omega
theorem chCnt_le : ∀ (a : Nat) (ns : List NodeD), a ≤ chCnt a ns ∧ chCnt a ns ≤ a + ns.length
  | a, [] => ⟨Nat.le_refl _, Nat.le_refl _⟩
  | a, n :: ns => by
    unfold chCnt
    split
    · have := chCnt_le a ns
      rw [List.length_cons]; omega
    · have := chCnt_le (a + 1) ns
      rw [List.length_cons]; omega
theorem chBy_in {outs : List Int} {a : Nat} {ns : List NodeD} {k : Nat} (h : k < ns.length) (hk : ns[k].kind = 1) : chBy outs a (ns.drop k) = outs.getD ns[k].a.toNat 0 :: chBy outs a (ns.drop (k + 1)) := by
  rw [List.drop_eq_getElem_cons h, chBy, if_pos hk]
theorem chBy_out {outs : List Int} {a : Nat} {ns : List NodeD} {k : Nat} (h : k < ns.length) (hk : ns[k].kind ≠ 1) : chBy outs a (ns.drop k) = (a : Int) :: chBy outs (a + 1) (ns.drop (k + 1)) := by
  rw [List.drop_eq_getElem_cons h, chBy, if_neg hk]
theorem chCnt_in {a : Nat} {ns : List NodeD} {k : Nat} (h : k < ns.length) (hk : ns[k].kind = 1) : chCnt a (ns.drop k) = chCnt a (ns.drop (k + 1)) := by
  rw [List.drop_eq_getElem_cons h, chCnt, if_pos hk]
theorem chCnt_out {a : Nat} {ns : List NodeD} {k : Nat} (h : k < ns.length) (hk : ns[k].kind ≠ 1) : chCnt a (ns.drop k) = chCnt (a + 1) (ns.drop (k + 1)) := by
  rw [List.drop_eq_getElem_cons h, chCnt, if_neg hk]
theorem chNs_in {t : Int} {by_ : List Int} {ns : List NodeD} {k : Nat} (h : k < ns.length) (hk : ns[k].kind = 1) : chNs t by_ (ns.drop k) = chNs t by_ (ns.drop (k + 1)) := by
  rw [List.drop_eq_getElem_cons h, chNs, if_pos hk]
theorem chNs_out {t : Int} {by_ : List Int} {ns : List NodeD} {k : Nat} (h : k < ns.length) (hk : ns[k].kind ≠ 1) : chNs t by_ (ns.drop k) = chN t by_ ns[k] :: chNs t by_ (ns.drop (k + 1)) := by
  rw [List.drop_eq_getElem_cons h, chNs, if_neg hk]
theorem take_set_snoc {xs : List Int} {k : Nat} (h : k < xs.length) (v : Int) : (xs.set k v).take (k + 1) = xs.take k ++ [v] := by
  rw [List.take_succ_eq_append_getElem (by rw [List.length_set]; exact h), List.getElem_set_self, List.take_set_of_le (Nat.le_refl k)]
/-! ### lists of lists are appended -/
section
theorem OwnIs.oneCell {B : Nat} {w : World} {L : List Value} {xss : List (List Int)} (h : OwnIs B w L xss) : ∀ u ∈ L, u.oneCell' = true := by
  intro u hu
  obtain ⟨i, hi, rfl⟩ := List.mem_iff_getElem.1 hu
  obtain ⟨hL, ho⟩ := h.at_ (i := i) (by rw [← h.1]; exact hi)
  exact ho.oneCell
theorem run_append_valsC (w : World) (ty E T bytes : Nat) (z : Value) (hT : Tryz.prog.underlying T = some (.slice E)) (hinfo : (Tryz.prog.info? E).map (fun i => (i.zero, i.size, i.bytes)) = some (some z, 1, bytes)) (hz : z.cells.size = 1) (hby : bytes ≤ 64)
    {B : Nat} {v : Value} {L M : List Value} (hown : OwnV B w E v L) {b o c : Nat} (hr : ∀ i (h : i < M.length), w.cell? ⟨b, o + i, none⟩ = some M[i]) (h1 : ∀ u ∈ M, u.oneCell' = true) (hlen : L.length + M.length < 1099511627776) (hB : B ≤ w.heap.size) :
    ∃ v' w', (Builtin.append_ #[T, T] ty #[v, .slice (some ⟨b, o, none⟩) M.length c]).run Tryz.prog w = .ok v' w' ∧ OwnV B w' E v' (L ++ M) ∧ w.grownBy w' v.ownBlock := by
  obtain ⟨i0, hi, hz0, hz1, hz2⟩ := info_parts hinfo
  obtain ⟨v', w', e1, e2, e3, _⟩ := run_append_own (P := Tryz.prog) w B T ty E i0 z 1 bytes hT hi hz0 hz1 hz2 hz (by decide) v L.length L hown ⟨b, o, none⟩ M.length c M (by simp)
    (by
      intro j u hu
      obtain ⟨hj, rfl⟩ := List.getElem?_eq_some_iff.1 hu
      rw [Addr.add_lit]
      exact hr j hj)
    h1 (by simp only [maxLen]; omega)
    (by have : (L.length + M.length) * bytes ≤ 1099511627776 * 64 := Nat.mul_le_mul (by omega) hby
        omega) hB
  exact ⟨v', w', e1, by simpa [OwnV] using e2, e3⟩
theorem run_append_valsN (w : World) (ty E T : Nat) (bytes : Nat) (z : Value) (hT : Tryz.prog.underlying T = some (.slice E)) (hinfo : (Tryz.prog.info? E).map (fun i => (i.zero, i.size, i.bytes)) = some (some z, 1, bytes)) (hz : z.cells.size = 1) (hby : bytes ≤ 64)
    {B B' : Nat} {v u : Value} {L M : List Value} (hown : OwnV B w E v L) (hsrc : OwnV B' w E u M) (h1 : ∀ u ∈ M, u.oneCell' = true) (hlen : L.length + M.length < 1099511627776) (hB : B ≤ w.heap.size) :
    ∃ v' w', (Builtin.append_ #[T, T] ty #[v, u]).run Tryz.prog w = .ok v' w' ∧ OwnV B w' E v' (L ++ M) ∧ w.grownBy w' v.ownBlock := by
  rcases hsrc.cases with ⟨rfl, rfl⟩ | ⟨g, cap, rfl, -, -, -, hr⟩
  · obtain ⟨i0, hi, hz0, hz1, hz2⟩ := info_parts hinfo
    refine ⟨v, w, ?_, by simpa using hown, ⟨rfl, rfl, rfl, Nat.le_refl _, fun _ _ _ => rfl⟩⟩
    rcases hown.2 with ⟨rfl, h0⟩ | ⟨g, cap, cur, rfl, _, _, hnc, _⟩
    · simp [Builtin.append_, run_underlying hT, sizeOf, typeInfo, hi, Builtin.lenOf, Builtin.firstCells]
    · simp [Builtin.append_, run_underlying hT, sizeOf, typeInfo, hi, Builtin.lenOf, Builtin.firstCells, hnc, storeCells]
  · refine run_append_valsC w ty E T bytes z hT hinfo hz hby hown (o := 0) (fun i hi => ?_) h1 hlen hB
    obtain ⟨b, o, e, -, hc⟩ := hr.pos hi
    simp only [Option.some.injEq, Addr.mk.injEq, and_true] at e
    obtain ⟨rfl, rfl⟩ := e
    exact hc i hi
theorem wpList_append_valsC {ops : Array Oper} {rest : List Oper} {o : Oper} {a : Act} {Q : Exit → Act → World → Prop} {w : World} {E T : Nat} (hgd : o.guard = none) (s x : Operand)
    (ho : o.op = .call { callee := .builtin .append, args := #[s, x], argTypes := #[T, T] }) (bytes : Nat) (z : Value) (hT : Tryz.prog.underlying T = some (.slice E)) (hinfo : (Tryz.prog.info? E).map (fun i => (i.zero, i.size, i.bytes)) = some (some z, 1, bytes)) (hz : z.cells.size = 1) (hby : bytes ≤ 64)
    {B B' : Nat} {v u : Value} {L M : List Value} (hs : a.eval s = v) (hx : a.eval x = u) (hown : OwnV B w E v L) (hsrc : OwnV B' w E u M) (h1 : ∀ u ∈ M, u.oneCell' = true) (hlen : L.length + M.length < 1099511627776) (hB : B ≤ w.heap.size)
    (h : ∀ v' w', OwnV B w' E v' (L ++ M) → w.grownBy w' v.ownBlock → wpList Tryz.prog ops Q rest (a.put o.dst v') w') : wpList Tryz.prog ops Q (o :: rest) a w := by
  refine wpList_plain hgd fun K hK => ?_
  obtain ⟨v', w', e1, e2, e3⟩ := run_append_valsN w o.type E T bytes z hT hinfo hz hby hown hsrc h1 hlen hB
  unfold Oper.wp execOp
  simp only [ho, resolve, invoke, builtin, Sem.run_bind, Sem.run_pure, Result.andThen_ok, List.map_toArray, List.map_cons, List.map_nil, hs, hx, e1]
  exact hK _ _ (h v' w' e2 e3)
theorem step_append_vals {ops : Array Oper} {o : Oper} {a : Act} {K : Act → World → Prop} {Q : Exit → Act → World → Prop} {X : Prop} {w : World} {E T : Nat} (hgd : o.guard = none) (s x : Operand)
    (ho : o.op = .call { callee := .builtin .append, args := #[s, x], argTypes := #[T, T] }) (bytes : Nat) (z : Value) (hT : Tryz.prog.underlying T = some (.slice E)) (hinfo : (Tryz.prog.info? E).map (fun i => (i.zero, i.size, i.bytes)) = some (some z, 1, bytes)) (hz : z.cells.size = 1) (hby : bytes ≤ 64)
    {B B' : Nat} {v u : Value} {L M : List Value} (hs : a.eval s = v) (hx : a.eval x = u) (hown : OwnV B w E v L) (hsrc : OwnV B' w E u M) (h1 : ∀ u ∈ M, u.oneCell' = true) (hlen : L.length + M.length < 1099511627776) (hB : B ≤ w.heap.size)
    (h : ∀ v' w', OwnV B w' E v' (L ++ M) → w.grownBy w' v.ownBlock → K (a.put o.dst v') w') :
    if Region.wanted o (yielded ops a.tmps) = true then Oper.wp Tryz.prog o a w K Q else X := by
  have hw : Region.wanted o (yielded ops a.tmps) = true := by simp [Region.wanted, hgd]
  rw [if_pos hw]
  obtain ⟨v', w', e1, e2, e3⟩ := run_append_valsN w o.type E T bytes z hT hinfo hz hby hown hsrc h1 hlen hB
  unfold Oper.wp execOp
  simp only [ho, resolve, invoke, builtin, Sem.run_bind, Sem.run_pure, Result.andThen_ok, List.map_toArray, List.map_cons, List.map_nil, hs, hx, e1]
  exact h v' w' e2 e3
end
section
variable {B : Nat} {w0 w : World} {s : Nat} {inp : Int} {v1 v2 v3 : Value} {ts : List (List Int)} {ns : List NodeD} {os : List Int} {L1 L : List Value}
/-- more tables -/
theorem OwnP.tables {w' : World} {v1' : Value} {M : List Value} {ts' : List (List Int)} (h : OwnP B w v1 v2 v3 ts ns os L1 L) (hs : OwnIs B w M ts') (hd : Dis M) (hsep : ∀ b, Blk M b → ¬ Blk (L1 ++ (L ++ [v3])) b) (hv : OwnV B w' 26 v1' (L1 ++ M))
    (hk : ∀ k, k < w.heap.size → v1.ownBlock ≠ some k → w'.heap[k]? = w.heap[k]?) : OwnP B w' v1' v2 v3 (ts ++ ts') ns os (L1 ++ M) L := by
  have t1 := Typed.of h.o1
  refine ⟨hv, ?_, h.o2.keep fun k e => hk k (h.o2.lt e).2 fun e' => t1.ne (Typed.of h.o2.2) (by decide) e' e, h.s2.keep fun k hb => hk k (h.s2.blk hb).2.1 fun e => ?_, h.o3.keep fun k e => hk k (h.o3.lt e).2 fun e' => t1.ne (Typed.of h.o3) (by decide) e' e, ?_⟩
  · refine (h.s1.keep fun k hb => hk k (h.s1.blk hb).2.1 fun e => ?_).append (hs.keep fun k hb => hk k (hs.blk hb).2.1 fun e => ?_)
    · obtain ⟨v, hv, hb⟩ := hb
      exact t1.ne (h.s1.typed hv) (by decide) e hb
    · obtain ⟨v, hv, hb⟩ := hb
      exact t1.ne (hs.typed hv) (by decide) e hb
  · obtain ⟨v, hv, hb⟩ := hb
    exact t1.ne (h.s2.typed hv) (by decide) e hb
  · have hdd := h.dis
    rw [List.append_assoc]
    refine Dis.append hdd.left (Dis.append hd hdd.right fun b hb hb' => hsep b hb (blk_append.2 (.inr hb'))) fun b hb hb' => ?_
    rcases blk_append.1 hb' with h1 | h1
    · exact hsep b h1 (blk_append.2 (.inl hb))
    · exact hdd.sep b hb h1
theorem PB.tables {w' : World} {v1' : Value} {M : List Value} {ts' : List (List Int)} (h : PB B w0 w s inp v1 v2 v3 ts ns os L1 L) (hs : OwnIs B w M ts') (hd : Dis M) (hsep : ∀ b, Blk M b → ¬ Blk (L1 ++ (L ++ [v3])) b) (hv : OwnV B w' 26 v1' (L1 ++ M)) (hg : w.grownBy w' v1.ownBlock) :
    (w'.cell? ⟨s, 1, none⟩ = some v1 ∧ w'.frozen? ⟨s, 1, none⟩ = false) ∧ PB B w0 (w'.setCell ⟨s, 1, none⟩ v1') s inp v1' v2 v3 (ts ++ ts') ns os (L1 ++ M) L := by
  have hk : ∀ k, k < w.heap.size → v1.ownBlock ≠ some k → w'.heap[k]? = w.heap[k]? := fun k hk hne => hg.block k hk fun e => hne e.symm
  have o' := h.own.tables hs hd hsep hv hk
  have n1 := (h.own.neBox h.out patchT).1
  have out' := h.out.keep (hk _ h.out.lt n1)
  have bel' : Below w0.heap.size w0 w' := h.bel.grown hg h.bel.size fun k hk => by have := (h.own.o1.lt hk).1; have := h.hB; omega
  exact ⟨⟨out'.cell 1 rfl, out'.frozen 1⟩, o'.setBox out' patchT 1 _, by simpa using out'.set 1 v1', bel'.setCell (by simpa using h.hs) _, h.hB, h.hs⟩
end
end Go.Proofs.YtaapkpjokmoekaaGreatDoor

namespace Go.Proofs.YtaapkpjokmoekaaGreatDoor
open Go.ChangeShapes Go.WideShapes Go.ChangeAt Go.RowKit Go.Sort
set_option linter.unusedVariables false

def noN : NodeD := ⟨0, 0, 0, []⟩
/-- the nodes of the second patch that stand in the chain; i: the first one's number -/
def chInv : Nat → List NodeD → List Nat
  | _, [] => []
  | i, n :: ns => if n.kind = 1 then chInv (i + 1) ns else i :: chInv (i + 1) ns
theorem chInv_length (t : Int) (by_ : List Int) : ∀ (i : Nat) (ns : List NodeD), (chInv i ns).length = (chNs t by_ ns).length
  | _, [] => rfl
  | i, n :: ns => by
    unfold chInv chNs
    split
    · exact chInv_length t by_ (i + 1) ns
    · rw [List.length_cons, List.length_cons, chInv_length t by_ (i + 1) ns]
theorem chInv_at (t : Int) (by_ : List Int) : ∀ (i : Nat) (ns : List NodeD) (j : Nat), j < (chInv i ns).length → ∃ k, k < ns.length ∧ (chInv i ns).getD j 0 = i + k ∧ (ns.getD k noN).kind ≠ 1 ∧ (chNs t by_ ns).getD j noN = chN t by_ (ns.getD k noN)
  | _, [], j, h => by simp [chInv] at h
  | i, n :: ns, j, h => by
    unfold chInv at h ⊢
    unfold chNs
    by_cases hk : n.kind = 1
    · rw [if_pos hk] at h ⊢
      rw [if_pos hk]
      obtain ⟨k, h1, h2, h3, h4⟩ := chInv_at t by_ (i + 1) ns j h
      exact ⟨k + 1, by simp; omega, by rw [h2]; omega, h3, h4⟩
    · rw [if_neg hk] at h ⊢
      rw [if_neg hk]
      cases j with
      | zero => exact ⟨0, by simp, rfl, hk, rfl⟩
      | succ j =>
        obtain ⟨k, h1, h2, h3, h4⟩ := chInv_at t by_ (i + 1) ns j (by simpa using h)
        exact ⟨k + 1, by simp; omega, by show (chInv (i + 1) ns).getD j 0 = _; rw [h2]; omega, h3, h4⟩
theorem chBy_node (t : Int) (by_ outs : List Int) : ∀ (i a : Nat) (ns : List NodeD) (k : Nat), k < ns.length → (ns.getD k noN).kind ≠ 1 → ∃ j, j < (chInv i ns).length ∧ (chInv i ns).getD j 0 = i + k ∧ (chBy outs a ns).getD k 0 = ((a + j : Nat) : Int) ∧ (chNs t by_ ns).getD j noN = chN t by_ (ns.getD k noN)
  | _, _, [], k, h, _ => by simp at h
  | i, a, n :: ns, k, h, hk => by
    unfold chInv chBy chNs
    by_cases hn : n.kind = 1
    · rw [if_pos hn, if_pos hn, if_pos hn]
      cases k with
      | zero => exact absurd hn hk
      | succ k =>
        obtain ⟨j, h1, h2, h3, h4⟩ := chBy_node t by_ outs (i + 1) a ns k (by simpa using h) hk
        exact ⟨j, h1, by rw [h2]; omega, h3, h4⟩
    · rw [if_neg hn, if_neg hn, if_neg hn]
      cases k with
      | zero => exact ⟨0, by simp, rfl, rfl, rfl⟩
      | succ k =>
        obtain ⟨j, h1, h2, h3, h4⟩ := chBy_node t by_ outs (i + 1) (a + 1) ns k (by simpa using h) hk
        refine ⟨j + 1, by simp; omega, ?_, ?_, h4⟩
        · show (chInv (i + 1) ns).getD j 0 = _; rw [h2]; omega
        · show (chBy outs (a + 1) ns).getD k 0 = _; rw [h3]; omega
theorem chBy_inp (outs : List Int) : ∀ (a : Nat) (ns : List NodeD) (k : Nat), k < ns.length → (ns.getD k noN).kind = 1 → (chBy outs a ns).getD k 0 = outs.getD (ns.getD k noN).a.toNat 0
  | _, [], k, h, _ => by simp at h
  | a, n :: ns, k, h, hk => by
    unfold chBy
    by_cases hn : n.kind = 1
    · rw [if_pos hn]
      cases k with
      | zero => rfl
      | succ k => exact chBy_inp outs a ns k (by simpa using h) hk
    · rw [if_neg hn]
      cases k with
      | zero => exact absurd hk hn
      | succ k => exact chBy_inp outs (a + 1) ns k (by simpa using h) hk
/-! ### what a patch's nodes ask -/
theorem ndB_parts {m t n : Int} {x : NodeD} : ndB m t n x = true ↔ inB x.kind 1 17 = true ∧ aB x.kind x.a t = true ∧ (x.src.length : Int) = kAr (x.kind - 1).toNat ∧ (∀ f ∈ x.src, 0 ≤ f ∧ f ≤ 23) ∧ (if x.kind = 17 then inB x.b 1 16 else x.b == 0) = true ∧ (x.kind = 1 → x.a < m) ∧ ∀ f ∈ x.src, 0 ≤ f ∧ f < n := by
  unfold ndB
  rw [nodeB_split]
  simp only [Bool.and_eq_true, List.all_eq_true, inB_iff, beq_iff_eq, Bool.not_eq_true', Bool.and_eq_false_iff, beq_eq_false_iff_ne, decide_eq_false_iff_not]
  constructor
  · rintro ⟨⟨⟨a, b, c, d, e⟩, f⟩, g⟩
    exact ⟨a, b, c, d, e, fun h => by rcases f with f | f; exact absurd h f; omega, fun y hy => by have := g y hy; omega⟩
  · rintro ⟨a, b, c, d, e, f, g⟩
    refine ⟨⟨⟨a, b, c, d, e⟩, ?_⟩, fun y hy => by have := g y hy; omega⟩
    by_cases h : x.kind = 1
    · right; have := f h; omega
    · exact .inl h
theorem aB_tab {k a t t' : Int} (h : aB k a t = true) (ht : t ≤ t') (ht4 : t' ≤ 4) : aB k a t' = true := by
  unfold aB at h ⊢
  split
  · rename_i hk
    rw [if_pos hk, inB_iff] at h
    rw [inB_iff]; omega
  · rename_i hk
    rw [if_neg hk] at h; exact h
theorem aB_shift {k a t t0 : Int} (h : aB k a t = true) (hk : k = 13) (h0 : 0 ≤ t0) (ht4 : t0 + t ≤ 4) : aB k (a + t0) (t0 + t) = true := by
  unfold aB at h ⊢
  rw [if_pos hk, inB_iff] at h ⊢
  omega
section
variable {p q : PatchD}
theorem formed_in {x : PatchD} (hf : formedB x = true) {k : Nat} (h : k < x.nodes.length) : ndB x.inputs x.tables.length x.nodes.length (ndI x.nodes k) = true := by
  rw [ndI_at h]; exact (formed_iff.1 hf).2.2.2.2.1 _ (List.getElem_mem h)
theorem formed_a {x : PatchD} (hf : formedB x = true) {k : Nat} (h : k < x.nodes.length) (h1 : (ndI x.nodes k).kind = 1) : 0 ≤ (ndI x.nodes k).a ∧ (ndI x.nodes k).a < x.inputs := by
  have hn := ndB_parts.1 (formed_in hf h)
  refine ⟨?_, hn.2.2.2.2.2.1 h1⟩
  have h2 := hn.2.1
  rw [h1] at h2
  have h3 : inB (ndI x.nodes k).a 0 3 = true := h2
  rw [inB_iff] at h3; exact h3.1
theorem chain_len (p q : PatchD) : (chainP p q).nodes.length = chCnt p.nodes.length q.nodes := by
  unfold chainP
  rw [List.length_append]
  exact chNs_length _ _ _ _
theorem chain_left {k : Nat} (h : k < p.nodes.length) : ndI (chainP p q).nodes (k : Int) = ndI p.nodes (k : Int) := by
  unfold ndI chainP
  rw [Int.toNat_natCast, List.getD_eq_getElem?_getD, List.getElem?_append_left h, ← List.getD_eq_getElem?_getD]
theorem chain_right (j : Nat) : ndI (chainP p q).nodes ((p.nodes.length + j : Nat) : Int) = (chNs p.tables.length (chainBy p q) q.nodes).getD j noN := by
  unfold ndI chainP
  rw [Int.toNat_natCast, List.getD_eq_getElem?_getD, List.getElem?_append_right (by omega), ← List.getD_eq_getElem?_getD, Nat.add_sub_cancel_left]
  rfl
/-- where the second patch's nodes lie -/
def chPhi (p q : PatchD) (k : Nat) : Nat := ((chainBy p q).getD k 0).toNat
theorem chain_node {k : Nat} (h : k < q.nodes.length) (hk : (ndI q.nodes k).kind ≠ 1) : ∃ j, j < (chInv 0 q.nodes).length ∧ (chInv 0 q.nodes).getD j 0 = k ∧ (chainBy p q).getD k 0 = ((p.nodes.length + j : Nat) : Int) ∧ ndI (chainP p q).nodes ((p.nodes.length + j : Nat) : Int) = chN p.tables.length (chainBy p q) (ndI q.nodes k) := by
  have hk' : (q.nodes.getD k noN).kind ≠ 1 := by have := hk; unfold ndI at this; rw [Int.toNat_natCast] at this; exact this
  obtain ⟨j, h1, h2, h3, h4⟩ := chBy_node p.tables.length (chainBy p q) p.outputs 0 p.nodes.length q.nodes k h hk'
  refine ⟨j, h1, by rw [h2]; omega, h3, ?_⟩
  rw [chain_right, h4]
  unfold ndI; rw [Int.toNat_natCast]; rfl
theorem chain_inp {k : Nat} (h : k < q.nodes.length) (hk : (ndI q.nodes k).kind = 1) : (chainBy p q).getD k 0 = p.outputs.getD (ndI q.nodes k).a.toNat 0 := by
  have hk' : (q.nodes.getD k noN).kind = 1 := by have := hk; unfold ndI at this; rw [Int.toNat_natCast] at this; exact this
  have := chBy_inp p.outputs p.nodes.length q.nodes k h hk'
  unfold ndI; rw [Int.toNat_natCast]; exact this
theorem chInv_le (p q : PatchD) : p.nodes.length + (chInv 0 q.nodes).length = chCnt p.nodes.length q.nodes := by
  rw [chInv_length p.tables.length (chainBy p q)]
  exact chNs_length _ _ _ _
theorem outs_at (hf : formedB p = true) {a : Nat} (h : a < p.outputs.length) : 0 ≤ p.outputs.getD a 0 ∧ p.outputs.getD a 0 < (p.nodes.length : Int) := by
  rw [List.getD_eq_getElem?_getD, List.getElem?_eq_getElem h]
  exact (formed_iff.1 hf).2.2.2.2.2 _ (List.getElem_mem h)
theorem chBy_range (hp : formedB p = true) (hq : formedB q = true) (hio : (p.outputs.length : Int) = q.inputs) {k : Nat} (h : k < q.nodes.length) :
    0 ≤ (chainBy p q).getD k 0 ∧ (chainBy p q).getD k 0 < (chCnt p.nodes.length q.nodes : Int) ∧ ((ndI q.nodes k).kind = 1 → (chainBy p q).getD k 0 < (p.nodes.length : Int)) := by
  have hc := chCnt_le p.nodes.length q.nodes
  by_cases hk : (ndI q.nodes k).kind = 1
  · have ha := formed_a hq h hk
    rw [chain_inp h hk]
    have := outs_at hp (a := (ndI q.nodes k).a.toNat) (by omega)
    exact ⟨this.1, by omega, fun _ => this.2⟩
  · obtain ⟨j, h1, h2, h3, h4⟩ := chain_node (p := p) h hk
    rw [h3]
    have := chInv_le p q
    exact ⟨by omega, by omega, fun e => absurd e hk⟩
theorem chain_formed (hp : formedB p = true) (hq : formedB q = true) (hio : (p.outputs.length : Int) = q.inputs) (hn : chCnt p.nodes.length q.nodes ≤ 24) (ht : p.tables.length + q.tables.length ≤ 4) : formedB (chainP p q) = true := by
  have P := formed_iff.1 hp
  have Q := formed_iff.1 hq
  have hc := chCnt_le p.nodes.length q.nodes
  have hl := chain_len p q
  have htl : ((chainP p q).tables.length : Int) = (p.tables.length : Int) + (q.tables.length : Int) := by unfold chainP; simp
  have nodes : ∀ k, k < (chainP p q).nodes.length → ndB p.inputs (chainP p q).tables.length (chainP p q).nodes.length (ndI (chainP p q).nodes (k : Int)) = true := fun k hk => by
    rw [hl] at hk ⊢
    rw [htl]
    by_cases h1 : k < p.nodes.length
    · rw [chain_left h1]
      obtain ⟨a, b, c, d, e, f, g⟩ := ndB_parts.1 (formed_in hp h1)
      exact ndB_parts.2 ⟨a, aB_tab b (by omega) (by omega), c, d, e, f, fun y hy => by have := g y hy; omega⟩
    · obtain ⟨j, rfl⟩ : ∃ j, k = p.nodes.length + j := ⟨k - p.nodes.length, by omega⟩
      have hj : j < (chInv 0 q.nodes).length := by have := chInv_le p q; omega
      obtain ⟨i, i1, i2, i3, i4⟩ := chInv_at p.tables.length (chainBy p q) 0 q.nodes j hj
      rw [chain_right, i4]
      have hi : q.nodes.getD i noN = ndI q.nodes (i : Int) := by unfold ndI; rw [Int.toNat_natCast]; rfl
      rw [hi] at i3 ⊢
      obtain ⟨a, b, c, d, e, f, g⟩ := ndB_parts.1 (formed_in hq i1)
      have hsrc : ∀ y ∈ mapL (chainBy p q) (ndI q.nodes (i : Int)).src, 0 ≤ y ∧ y < (chCnt p.nodes.length q.nodes : Int) := fun y hy => by
        unfold mapL at hy
        obtain ⟨s, hs, rfl⟩ := List.mem_map.1 hy
        have := g s hs
        have := chBy_range hp hq hio (k := s.toNat) (by omega)
        exact ⟨this.1, this.2.1⟩
      refine ndB_parts.2 ⟨a, ?_, by show ((mapL _ _).length : Int) = _; rw [mapL_length]; exact c, fun y hy => by have := hsrc y hy; omega, e, fun h => absurd h i3, hsrc⟩
      show aB (ndI q.nodes (i : Int)).kind (if (ndI q.nodes (i : Int)).kind = 13 then (ndI q.nodes (i : Int)).a + (p.tables.length : Int) else (ndI q.nodes (i : Int)).a) _ = true
      split
      · rename_i h13
        exact aB_shift b h13 (by omega) (by omega)
      · exact aB_tab b (by omega) (by omega)
  refine formed_iff.2 ⟨P.1, ?_, by rw [hl]; exact hn, by show (mapL _ _).length ≤ 4; rw [mapL_length]; exact Q.2.2.2.1, fun y hy => ?_, fun y hy => ?_⟩
  · have h1 := P.2.1
    have h2 := Q.2.1
    unfold tablesB at h1 h2 ⊢
    show ((p.tables ++ q.tables).all tblB && decide ((p.tables ++ q.tables).length ≤ 4)) = true
    simp only [Bool.and_eq_true, decide_eq_true_eq] at h1 h2 ⊢
    exact ⟨by rw [List.all_append, h1.1, h2.1]; rfl, by rw [List.length_append]; omega⟩
  · obtain ⟨k, hk, rfl⟩ := List.mem_iff_getElem.1 hy
    have := nodes k hk
    rw [ndI_at hk] at this
    exact this
  · have hy' : y ∈ mapL (chainBy p q) q.outputs := hy
    unfold mapL at hy'
    obtain ⟨s, hs, rfl⟩ := List.mem_map.1 hy'
    have := Q.2.2.2.2.2 s hs
    have := chBy_range hp hq hio (k := s.toNat) (by omega)
    rw [hl]
    exact ⟨this.1, this.2.1⟩
theorem chain_okB (hp : okB p = true) (hq : okB q = true) (hio : (p.outputs.length : Int) = q.inputs) (hn : chCnt p.nodes.length q.nodes ≤ 24) (ht : p.tables.length + q.tables.length ≤ 4) : okB (chainP p q) = true := by
  have fp := (okR_len hp).1
  have fq := (okR_len hq).1
  obtain ⟨ρ, r1, r2⟩ := okR_ranked hp
  obtain ⟨σ, s1, s2⟩ := okR_ranked hq
  refine rankedR_okB (ρ := fun j => if j.toNat < p.nodes.length then ρ j else 25 + σ ((chInv 0 q.nodes).getD (j.toNat - p.nodes.length) 0 : Nat)) (chain_formed fp fq hio hn ht) fun j h0 hj s hs => ?_
  obtain ⟨k, rfl⟩ := Int.eq_ofNat_of_zero_le h0
  rw [chain_len] at hj
  dsimp only
  rw [Int.toNat_natCast]
  by_cases h1 : k < p.nodes.length
  · rw [chain_left h1] at hs
    have hr := formedR_src fp h1 s (waits_src hs)
    rw [if_pos h1, if_pos (by omega)]
    exact r1 _ (by omega) (by omega) s hs
  · rw [if_neg h1]
    obtain ⟨j, rfl⟩ : ∃ j, k = p.nodes.length + j := ⟨k - p.nodes.length, by omega⟩
    have hj' : j < (chInv 0 q.nodes).length := by have := chInv_le p q; omega
    obtain ⟨i, i1, i2, i3, i4⟩ := chInv_at p.tables.length (chainBy p q) 0 q.nodes j hj'
    rw [chain_right, i4] at hs
    have hi : q.nodes.getD i noN = ndI q.nodes (i : Int) := by unfold ndI; rw [Int.toNat_natCast]; rfl
    rw [hi] at i3 hs
    rw [Nat.add_sub_cancel_left, i2, Nat.zero_add]
    have hw : ∃ t ∈ waits (ndI q.nodes (i : Int)), s = (chainBy p q).getD t.toNat 0 := by
      unfold waits at hs ⊢
      show ∃ t ∈ (if (ndI q.nodes (i : Int)).kind = 6 then [] else (ndI q.nodes (i : Int)).src), _
      change s ∈ (if (ndI q.nodes (i : Int)).kind = 6 then [] else mapL (chainBy p q) (ndI q.nodes (i : Int)).src) at hs
      split at hs
      · simp at hs
      · rename_i h6
        rw [if_neg h6]
        unfold mapL at hs
        obtain ⟨t, ht, rfl⟩ := List.mem_map.1 hs
        exact ⟨t, ht, rfl⟩
    obtain ⟨t, htw, rfl⟩ := hw
    have hr := formedR_src fq i1 t (waits_src htw)
    obtain ⟨m, rfl⟩ := Int.eq_ofNat_of_zero_le hr.1
    have hm : m < q.nodes.length := by omega
    have hlt := s1 (i : Int) (by omega) (by omega) _ htw
    rw [Int.toNat_natCast]
    by_cases hk : (ndI q.nodes (m : Int)).kind = 1
    · have := (chBy_range fp fq hio hm)
      have h3 := this.2.2 hk
      rw [if_pos (by omega)]
      have := r2 ((chainBy p q).getD m 0)
      omega
    · obtain ⟨l, l1, l2, l3, l4⟩ := chain_node (p := p) hm hk
      rw [l3, Int.toNat_natCast, if_neg (by omega), Nat.add_sub_cancel_left, l2]
      omega
theorem outP_same {n m : NodeD} {tb tb' : List (List Int)} (hk : m.kind = n.kind) (ha : n.kind ≠ 13 → m.a = n.a) (ht : n.kind = 13 → tb'.getD m.a.toNat [] = tb.getD n.a.toNat []) (xs ss : List Int) : outP n tb xs ss = outP m tb' xs ss := by
  unfold outP
  by_cases h : n.kind = 13
  · rw [hk, h]
    show lookP (tb.getD n.a.toNat []) (xs.getD 0 0) = lookP (tb'.getD m.a.toNat []) (xs.getD 0 0)
    rw [ht h]
  · rw [hk, ha h]
    have hn : n.kind.toNat ≠ 13 := by omega
    unfold outK
    split <;> first | rfl | (exact absurd ‹_› hn) | (exfalso; simp_all)
theorem tab_of (hf : formedB p = true) {k : Nat} (h : k < p.nodes.length) (h13 : (ndI p.nodes k).kind = 13) : 0 ≤ (ndI p.nodes k).a ∧ (ndI p.nodes k).a < (p.tables.length : Int) := by
  have hb := (ndB_parts.1 (formed_in hf h)).2.1
  unfold aB at hb
  rw [if_pos h13, inB_iff] at hb
  omega
theorem chain_emb1 (hp : formedB p = true) : Emb p (chainP p q) (fun k => k) (fun _ => False) := by
  have hl := chain_len p q
  have hc := chCnt_le p.nodes.length q.nodes
  refine ⟨fun k hk => by omega, fun k hk h => h.elim, fun k hk _ xs ss => ?_, fun k hk _ xs ss y => by rw [chain_left hk], fun k hk _ => by rw [chain_left hk], fun k hk _ => by rw [chain_left hk], fun k hk _ _ => by rw [chain_left hk], fun k hk _ => ⟨?_, formedR_src hp hk⟩⟩
  · rw [chain_left hk]
    refine outP_same rfl (fun _ => rfl) (fun h => ?_) xs ss
    have := tab_of hp hk h
    show (p.tables ++ q.tables).getD _ [] = _
    rw [List.getD_eq_getElem?_getD, List.getElem?_append_left (by omega), ← List.getD_eq_getElem?_getD]
  · rw [chain_left hk]
    conv => lhs; rw [← List.map_id (ndI p.nodes (k : Int)).src]
    refine List.map_congr_left fun s hs => ?_
    have := formedR_src hp hk s hs
    show s = ((s.toNat : Nat) : Int)
    omega
theorem chain_emb2 (hp : formedB p = true) (hq : formedB q = true) (hio : (p.outputs.length : Int) = q.inputs) : Emb q (chainP p q) (chPhi p q) (fun k => (ndI q.nodes (k : Int)).kind = 1) := by
  have hl := chain_len p q
  have node : ∀ k, k < q.nodes.length → (ndI q.nodes (k : Int)).kind ≠ 1 → ndI (chainP p q).nodes ((chPhi p q k : Nat) : Int) = chN p.tables.length (chainBy p q) (ndI q.nodes k) := fun k hk h1 => by
    obtain ⟨j, _, _, h3, h4⟩ := chain_node (p := p) hk h1
    unfold chPhi
    rw [h3, Int.toNat_natCast]
    exact h4
  refine ⟨fun k hk => ?_, fun k hk h => h, fun k hk h xs ss => ?_, fun k hk h xs ss y => by rw [node k hk h]; rfl, fun k hk h => ?_, fun k hk h => by rw [node k hk h]; rfl, fun k hk h h1 => absurd h1 h, fun k hk h => ⟨?_, formedR_src hq hk⟩⟩
  · have := chBy_range hp hq hio hk
    unfold chPhi
    omega
  · rw [node k hk h]
    refine outP_same (n := ndI q.nodes (k : Int)) (m := chN p.tables.length (chainBy p q) (ndI q.nodes k)) rfl (fun h13 => by show (if _ then _ else _) = _; rw [if_neg h13]) (fun h13 => ?_) xs ss
    have := tab_of hq hk h13
    show (p.tables ++ q.tables).getD (if _ then _ else _ : Int).toNat [] = _
    rw [if_pos h13, List.getD_eq_getElem?_getD, List.getElem?_append_right (by omega), ← List.getD_eq_getElem?_getD]
    congr 1
    omega
  · rw [node k hk h]
    unfold startL
    show _ = if (ndI q.nodes (k : Int)).kind = 6 then List.replicate (if (ndI q.nodes (k : Int)).kind = 13 then (ndI q.nodes (k : Int)).a + (p.tables.length : Int) else (ndI q.nodes (k : Int)).a).toNat 0 else if (ndI q.nodes (k : Int)).kind = 17 then List.replicate (ndI q.nodes (k : Int)).b.toNat 0 else if (ndI q.nodes (k : Int)).kind = 7 ∨ (ndI q.nodes (k : Int)).kind = 8 ∨ (ndI q.nodes (k : Int)).kind = 16 then [0] else if (ndI q.nodes (k : Int)).kind = 12 ∨ (ndI q.nodes (k : Int)).kind = 14 then [if (ndI q.nodes (k : Int)).kind = 13 then (ndI q.nodes (k : Int)).a + (p.tables.length : Int) else (ndI q.nodes (k : Int)).a] else []
    by_cases h13 : (ndI q.nodes (k : Int)).kind = 13
    · rw [h13]; rfl
    · rw [if_neg h13]
  · rw [node k hk h]
    show mapL (chainBy p q) (ndI q.nodes (k : Int)).src = _
    unfold mapL
    refine List.map_congr_left fun s hs => ?_
    have := formedR_src hq hk s hs
    have := chBy_range hp hq hio (k := s.toNat) (by omega)
    show (chainBy p q).getD s.toNat 0 = ((((chainBy p q).getD s.toNat 0).toNat : Nat) : Int)
    omega
theorem renL_get {x : PatchD} {ins : List (List Int)} {n a i : Nat} (ha : a < x.outputs.length) (hi : i < n) : (frN (renL x ins n) i).getD a 0 = (vsI x ins i).getD (x.outputs.getD a 0).toNat 0 := by
  unfold frN renL
  rw [List.map_map, List.getD_eq_getElem?_getD, List.getElem?_map, List.getElem?_eq_getElem ha]
  show ((List.range n).map fun i => (vsI x ins i).getD x.outputs[a].toNat 0).getD i 0 = _
  rw [getD_map_range _ _ hi, List.getD_eq_getElem?_getD (l := x.outputs), List.getElem?_eq_getElem ha]
  rfl
/-- the chain renders as one patch after the other -/
theorem chain_render (hp : okB p = true) (hq : okB q = true) (hio : (p.outputs.length : Int) = q.inputs) (hn : chCnt p.nodes.length q.nodes ≤ 24) (ht : p.tables.length + q.tables.length ≤ 4) (ins : List (List Int)) (n : Nat) :
    renL q (renL p ins n) n = renL (chainP p q) ins n := by
  have fp := (okR_len hp).1
  have fq := (okR_len hq).1
  have hr := chain_okB hp hq hio hn ht
  have R1 := (chain_emb1 (q := q) fp).run hp hr (ins' := ins) (ins := ins) (n := n) (fun _ _ _ _ => rfl) (fun _ _ _ _ h => h.elim)
  have R2 := (chain_emb2 fp fq hio).run hq hr (ins' := renL p ins n) (ins := ins) (n := n) (fun _ _ _ ⟨_, _, h1, h2, _⟩ => absurd h2 h1) (fun i hi k hk h1 => by
    have ha := formed_a fq hk h1
    have hal : (ndI q.nodes (k : Int)).a.toNat < p.outputs.length := by omega
    rw [renL_get hal hi, (R1 i hi).2]
    have ho := outs_at fp hal
    unfold atL chPhi
    rw [getD_map_range _ _ (by omega), chain_inp hk h1])
  unfold renL
  show _ = (mapL (chainBy p q) q.outputs).map _
  unfold mapL
  rw [List.map_map]
  refine List.map_congr_left fun o ho => ?_
  have hob := (formed_iff.1 fq).2.2.2.2.2 o ho
  refine List.map_congr_left fun i hi => ?_
  have hi' : i < n := by simpa using hi
  show (vsI q (renL p ins n) i).getD o.toNat 0 = (vsI (chainP p q) ins i).getD ((chainBy p q).getD o.toNat 0).toNat 0
  rw [(R2 i hi').2]
  unfold atL chPhi
  rw [getD_map_range _ _ (by omega)]
end
end Go.Proofs.YtaapkpjokmoekaaGreatDoor

namespace Go.Proofs.YtaapkpjokmoekaaGreatDoor
open Go.ChangeShapes Go.WideShapes Go.ChangeAt Go.RowKit Go.Sort
set_option linter.unusedVariables false

/-- nodes that can stand alone: with all that they have as inputs, and the outputs among them -/
structure KeepOk (x : PatchD) (keep : List Int) : Prop where
  rise : Rising keep
  rng : ∀ i ∈ keep, 0 ≤ i ∧ i < (x.nodes.length : Int)
  outs : ∀ o ∈ x.outputs, o ∈ keep
  shut : ∀ i ∈ keep, ∀ s ∈ (ndI x.nodes i).src, s ∈ keep
theorem need_keep {x : PatchD} (hf : formedB x = true) : KeepOk x (need x) := by
  have E := marksL_end (formed_src hf) (formed_outs hf)
  refine ⟨ups_rising _ _, need_rng, fun o ho => ?_, fun i hi s hs => ?_⟩
  · have := formed_outs hf o ho
    exact mem_ups.2 ⟨this.1, this.2, E.todo o ho⟩
  · obtain ⟨h0, h1, h2⟩ := mem_ups.1 hi
    have hs' : s ∈ srcs x.nodes i := hs
    have hr := srcs_rng (formed_src hf) hs'
    exact mem_ups.2 ⟨hr.1, hr.2, E.shut i h0 h1 h2 s hs'⟩
theorem rising_lt {xs : List Int} (h : Rising xs) {i j : Nat} (hij : i < j) (hj : j < xs.length) : xs[i] < xs[j] := List.pairwise_iff_getElem.1 h i j (by omega) hj hij
theorem putBy_get : ∀ (b : List Int) (j : Nat) (r : List Int) (k : Nat), (∀ i ∈ r, 0 ≤ i) → Rising r → k < b.length →
    (putBy b j r).getD k 0 = (if h : (k : Int) ∈ r then (((j + r.findIdx (fun i => i == (k : Int)) : Nat) : Int)) else b.getD k 0)
  | b, j, [], k, _, _, _ => by simp [putBy]
  | b, j, i :: r, k, h0, hr, hk => by
    have hr' := List.pairwise_cons.1 hr
    have hi0 := h0 i (List.mem_cons_self ..)
    rw [putBy, putBy_get _ (j + 1) r k (fun a ha => h0 a (List.mem_cons_of_mem _ ha)) hr'.2 (by rw [List.length_set]; exact hk)]
    by_cases e : i = (k : Int)
    · have hn : ¬ (k : Int) ∈ r := fun hm => by have := hr'.1 _ hm; omega
      rw [dif_neg hn, dif_pos (by rw [← e]; exact List.mem_cons_self ..)]
      have e2 : i.toNat = k := by omega
      rw [e2, List.getD_eq_getElem?_getD, List.getElem?_set_self hk, List.findIdx_cons]
      have : (i == (k : Int)) = true := by simp [e]
      rw [this]
      simp
    · by_cases hm : (k : Int) ∈ r
      · rw [dif_pos hm, dif_pos (List.mem_cons_of_mem _ hm), List.findIdx_cons]
        have : (i == (k : Int)) = false := by simp [e]
        rw [this]
        simp only [cond_false]
        omega
      · rw [dif_neg hm, dif_neg (by simp only [List.mem_cons, not_or]; exact ⟨fun h => e h.symm, hm⟩), List.getD_eq_getElem?_getD, List.getElem?_set_ne (by omega), ← List.getD_eq_getElem?_getD]
theorem byL_at {keep : List Int} {n k : Nat} (hr : Rising keep) (hg : ∀ i ∈ keep, 0 ≤ i ∧ i < (n : Int)) (hk : k < keep.length) : (byL n keep).getD (keep[k]).toNat 0 = (k : Int) := by
  have hm := List.getElem_mem hk
  have hb := hg _ hm
  unfold byL
  rw [putBy_get _ 0 keep _ (fun i hi => (hg i hi).1) hr (by rw [List.length_replicate]; omega)]
  have e : ((keep[k].toNat : Nat) : Int) = keep[k] := by omega
  rw [e, dif_pos hm, Nat.zero_add]
  congr 1
  refine (List.findIdx_eq hk).2 ⟨by simp, fun j hj => ?_⟩
  have := rising_lt hr hj hk
  simp only [beq_eq_false_iff_ne]
  omega
/-- where the kept nodes lay -/
def keepPhi (keep : List Int) (k : Nat) : Nat := (keep.getD k 0).toNat
section
variable {x : PatchD} {keep : List Int}
theorem keep_phi {k : Nat} (hk : k < keep.length) (K : KeepOk x keep) : ((keepPhi keep k : Nat) : Int) = keep[k] ∧ keepPhi keep k < x.nodes.length := by
  have := K.rng _ (List.getElem_mem hk)
  unfold keepPhi
  rw [List.getD_eq_getElem?_getD, List.getElem?_eq_getElem hk]
  show ((keep[k].toNat : Nat) : Int) = keep[k] ∧ keep[k].toNat < _
  omega
theorem keep_len : (keepP x keep).nodes.length = keep.length := by unfold keepP; rw [List.length_map]
theorem keep_nd {k : Nat} (hk : k < keep.length) (K : KeepOk x keep) : ndI (keepP x keep).nodes (k : Int) = keepN x.nodes (byL x.nodes.length keep) keep[k] := by
  rw [ndI_at (by rw [keep_len]; exact hk)]
  unfold keepP
  rw [List.getElem_map]
theorem keepN_eq (by_ : List Int) (i : Int) : keepN x.nodes by_ i = { ndI x.nodes i with src := mapL by_ (ndI x.nodes i).src } := rfl
/-- the place of a kept node -/
theorem keep_back {i : Int} (hi : i ∈ keep) (K : KeepOk x keep) : 0 ≤ (byL x.nodes.length keep).getD i.toNat 0 ∧ (byL x.nodes.length keep).getD i.toNat 0 < (keep.length : Int) ∧ ((keepPhi keep ((byL x.nodes.length keep).getD i.toNat 0).toNat : Nat) : Int) = i := by
  obtain ⟨k, hk, rfl⟩ := List.mem_iff_getElem.1 hi
  rw [byL_at K.rise K.rng hk]
  refine ⟨by omega, by omega, ?_⟩
  rw [Int.toNat_natCast]
  exact (keep_phi hk K).1
theorem keep_emb (hf : formedB x = true) (K : KeepOk x keep) : Emb (keepP x keep) x (keepPhi keep) (fun _ => False) := by
  have nd : ∀ k, k < (keepP x keep).nodes.length → ndI (keepP x keep).nodes (k : Int) = { ndI x.nodes ((keepPhi keep k : Nat) : Int) with src := mapL (byL x.nodes.length keep) (ndI x.nodes ((keepPhi keep k : Nat) : Int)).src } := fun k hk => by
    rw [keep_len] at hk
    rw [keep_nd hk K, (keep_phi hk K).1]
    rfl
  refine ⟨fun k hk => (keep_phi (by rwa [keep_len] at hk) K).2, fun k hk h => h.elim, fun k hk _ xs ss => ?_, fun k hk _ xs ss y => ?_, fun k hk _ => ?_, fun k hk _ => ?_, fun k hk _ _ => ?_, fun k hk _ => ⟨?_, ?_⟩⟩
  · rw [nd k hk]; rfl
  · rw [nd k hk]; rfl
  · rw [nd k hk]; rfl
  · rw [nd k hk]
  · rw [nd k hk]
  · rw [nd k hk]
    have hk' : k < keep.length := by rwa [keep_len] at hk
    unfold mapL
    rw [List.map_map]
    conv => lhs; rw [← List.map_id (ndI x.nodes ((keepPhi keep k : Nat) : Int)).src]
    refine List.map_congr_left fun s hs => ?_
    have hm : s ∈ keep := K.shut _ (List.getElem_mem hk') s (by rw [← (keep_phi hk' K).1]; exact hs)
    exact (keep_back hm K).2.2.symm
  · intro s hs
    rw [nd k hk] at hs
    have hk' : k < keep.length := by rwa [keep_len] at hk
    obtain ⟨t, ht, rfl⟩ := List.mem_map.1 (show s ∈ mapL (byL x.nodes.length keep) (ndI x.nodes ((keepPhi keep k : Nat) : Int)).src from hs)
    have hm : t ∈ keep := K.shut _ (List.getElem_mem hk') t (by rw [← (keep_phi hk' K).1]; exact ht)
    have := keep_back hm K
    rw [keep_len]
    exact ⟨this.1, this.2.1⟩
theorem keep_formed (hf : formedB x = true) (K : KeepOk x keep) : formedB (keepP x keep) = true := by
  have P := formed_iff.1 hf
  have hkl : keep.length ≤ x.nodes.length := rising_len (a := 0) K.rise fun i hi => by have := K.rng i hi; omega
  refine formed_iff.2 ⟨P.1, P.2.1, by rw [keep_len]; omega, by show (mapL _ _).length ≤ 4; rw [mapL_length]; exact P.2.2.2.1, fun y hy => ?_, fun y hy => ?_⟩
  · obtain ⟨i, hi, rfl⟩ := List.mem_map.1 (show y ∈ keep.map (keepN x.nodes (byL x.nodes.length keep)) from hy)
    have hb := K.rng i hi
    obtain ⟨k, rfl⟩ := Int.eq_ofNat_of_zero_le hb.1
    obtain ⟨a, b, c, d, e, f, g⟩ := ndB_parts.1 (formed_in hf (k := k) (by omega))
    have hsrc : ∀ y ∈ mapL (byL x.nodes.length keep) (ndI x.nodes (k : Int)).src, 0 ≤ y ∧ y < (keep.length : Int) := fun y hy => by
      unfold mapL at hy
      obtain ⟨s, hs, rfl⟩ := List.mem_map.1 hy
      have := keep_back (K.shut _ hi s hs) K
      exact ⟨this.1, this.2.1⟩
    rw [keepN_eq, keep_len]
    exact ndB_parts.2 ⟨a, b, by show ((mapL _ _).length : Int) = _; rw [mapL_length]; exact c, fun y hy => by have := hsrc y hy; have := P.2.2.1; omega, e, f, hsrc⟩
  · obtain ⟨s, hs, rfl⟩ := List.mem_map.1 (show y ∈ x.outputs.map fun i => (byL x.nodes.length keep).getD i.toNat 0 from hy)
    have := keep_back (K.outs s hs) K
    rw [keep_len]
    exact ⟨this.1, this.2.1⟩
theorem keep_okB (ok : okB x = true) (K : KeepOk x keep) : okB (keepP x keep) = true := by
  have hf := (okR_len ok).1
  obtain ⟨ρ, r1, r2⟩ := okR_ranked ok
  refine rankedR_okB (ρ := fun j => ρ (keepPhi keep j.toNat : Nat)) (keep_formed hf K) fun j h0 hj s hs => ?_
  obtain ⟨k, rfl⟩ := Int.eq_ofNat_of_zero_le h0
  rw [keep_len] at hj
  have hk : k < keep.length := by omega
  rw [keep_nd hk K, keepN_eq] at hs
  have hw : ∃ t ∈ waits (ndI x.nodes keep[k]), s = (byL x.nodes.length keep).getD t.toNat 0 := by
    unfold waits at hs ⊢
    show ∃ t ∈ (if (ndI x.nodes keep[k]).kind = 6 then [] else (ndI x.nodes keep[k]).src), _
    change s ∈ (if (ndI x.nodes keep[k]).kind = 6 then [] else mapL (byL x.nodes.length keep) (ndI x.nodes keep[k]).src) at hs
    split at hs
    · simp at hs
    · rename_i h6
      rw [if_neg h6]
      unfold mapL at hs
      obtain ⟨t, ht, rfl⟩ := List.mem_map.1 hs
      exact ⟨t, ht, rfl⟩
  obtain ⟨t, ht, rfl⟩ := hw
  have hm := K.shut _ (List.getElem_mem hk) t (waits_src ht)
  have hb := keep_back hm K
  dsimp only
  rw [Int.toNat_natCast, hb.2.2, (keep_phi hk K).1]
  have := K.rng _ (List.getElem_mem hk)
  exact r1 _ this.1 this.2 t ht
/-- the kept nodes render as all do -/
theorem keep_render (ok : okB x = true) (K : KeepOk x keep) (ins : List (List Int)) (n : Nat) : renL (keepP x keep) ins n = renL x ins n := by
  have R := (keep_emb (okR_len ok).1 K).run (keep_okB ok K) ok (ins' := ins) (ins := ins) (n := n) (fun _ _ _ _ => rfl) (fun _ _ _ _ h => h.elim)
  unfold renL
  show (mapL (byL x.nodes.length keep) x.outputs).map _ = _
  unfold mapL
  rw [List.map_map]
  refine List.map_congr_left fun o ho => ?_
  refine List.map_congr_left fun i hi => ?_
  have hi' : i < n := by simpa using hi
  have hb := keep_back (K.outs o ho) K
  show (vsI (keepP x keep) ins i).getD ((byL x.nodes.length keep).getD o.toNat 0).toNat 0 = _
  rw [(R i hi').2]
  unfold atL
  rw [getD_map_range _ _ (by rw [keep_len]; omega)]
  congr 1
  omega
end
theorem trim_okB {x : PatchD} (ok : okB x = true) : okB (trimP x) = true := keep_okB ok (need_keep (okR_len ok).1)
theorem trim_render {x : PatchD} (ok : okB x = true) (ins : List (List Int)) (n : Nat) : renL (trimP x) ins n = renL x ins n := keep_render ok (need_keep (okR_len ok).1) ins n
theorem trim_len (x : PatchD) : (trimP x).nodes.length = (need x).length := keep_len
/-! ### the order -/
theorem order_rng {x : PatchD} (ok : okB x = true) : ∀ o ∈ orderL x.nodes, 0 ≤ o ∧ o < (x.nodes.length : Int) :=
  (solP_ord (x := x) (st := []) (fr := []) x.nodes.length [] ⟨by simp, by simp, by simp⟩).1
end Go.Proofs.YtaapkpjokmoekaaGreatDoor

namespace Go.Proofs.YtaapkpjokmoekaaGreatDoor
open Go.ChangeShapes Go.WideShapes Go.ChangeAt Go.RowKit Go.Sort
set_option linter.unusedVariables false

/-- what a node waits for stands ahead of it -/
def PrefOk (nodes : List NodeD) (out : List Int) : Prop := ∀ k (h : k < out.length), ∀ s ∈ waits (ndI nodes out[k]), s ∈ out.take k
theorem prefOk_snoc {nodes : List NodeD} {out : List Int} {i : Nat} (h : PrefOk nodes out) (hr : rdy nodes out i = true) : PrefOk nodes (out ++ [(i : Int)]) := fun k hk s hs => by
  unfold rdy at hr
  simp only [Bool.and_eq_true, List.all_eq_true] at hr
  by_cases hlt : k < out.length
  · rw [List.getElem_append_left hlt] at hs
    rw [List.take_append_of_le_length (by omega)]
    exact h k hlt s hs
  · rw [List.length_append, List.length_singleton] at hk
    obtain rfl : k = out.length := by omega
    rw [List.getElem_append_right (by omega)] at hs
    simp only [Nat.sub_self, List.getElem_cons_zero] at hs
    rw [List.take_append_of_le_length (Nat.le_refl _), List.take_length]
    have := hr.2 s (by unfold ndI at hs; rw [Int.toNat_natCast] at hs; exact hs)
    simpa using this
theorem prefOk_ord {nodes : List NodeD} : ∀ (f : Nat) (out : List Int), PrefOk nodes out → PrefOk nodes (ord nodes f out)
  | 0, _, h => h
  | f + 1, out, h => by
    rcases e : nxt nodes out 0 nodes.length with _ | i
    · rw [ord_none e]; exact h
    · rw [ord_some e]
      exact prefOk_ord f _ (prefOk_snoc h (nxt_some e).2.2)
theorem order_pref (nodes : List NodeD) : PrefOk nodes (orderL nodes) := prefOk_ord _ _ fun k h => by simp at h
/-- the places after k steps -/
def plK (n : Nat) (out : List Int) : Nat → List Int
  | 0 => List.replicate n 0
  | k + 1 => (plK n out k).set (out.getD k 0).toNat ((k : Int) + 1)
theorem plK_len (n : Nat) (out : List Int) : ∀ k, (plK n out k).length = n
  | 0 => by simp [plK]
  | k + 1 => by rw [plK, List.length_set, plK_len]
theorem nodup_ne {xs : List Int} (h : xs.Nodup) {i j : Nat} (hi : i < xs.length) (hj : j < xs.length) (hij : i ≠ j) : xs[i] ≠ xs[j] := by
  rcases Nat.lt_or_ge i j with h1 | h1
  · exact List.pairwise_iff_getElem.1 h i j hi hj h1
  · exact fun e => List.pairwise_iff_getElem.1 h j i hj hi (by omega) e.symm
theorem plK_new {n : Nat} {out : List Int} (hn : out.Nodup) (hr : ∀ o ∈ out, 0 ≤ o ∧ o < (n : Int)) : ∀ (k j : Nat) (hj : j < out.length), k ≤ j → (plK n out k).getD (out[j]).toNat 0 = 0
  | 0, j, hj, _ => by
    unfold plK
    rw [List.getD_eq_getElem?_getD, List.getElem?_replicate]
    split <;> rfl
  | k + 1, j, hj, hk => by
    have h1 := nodup_ne hn (i := k) (j := j) (by omega) hj (by omega)
    have a := hr _ (List.getElem_mem (show k < out.length by omega))
    have b := hr _ (List.getElem_mem hj)
    rw [plK, List.getD_eq_getElem?_getD (l := out), List.getElem?_eq_getElem (show k < out.length by omega)]
    show ((plK n out k).set (out[k]).toNat ((k : Int) + 1)).getD _ 0 = 0
    rw [List.getD_eq_getElem?_getD, List.getElem?_set_ne (by omega), ← List.getD_eq_getElem?_getD]
    exact plK_new hn hr k j hj (by omega)
theorem plK_old {n : Nat} {out : List Int} (hn : out.Nodup) (hr : ∀ o ∈ out, 0 ≤ o ∧ o < (n : Int)) : ∀ (k j : Nat) (hj : j < out.length), j < k → k ≤ out.length → (plK n out k).getD (out[j]).toNat 0 = (j : Int) + 1
  | 0, j, hj, h, _ => by omega
  | k + 1, j, hj, h, hk => by
    have a := hr _ (List.getElem_mem (show k < out.length by omega))
    have b := hr _ (List.getElem_mem hj)
    rw [plK, List.getD_eq_getElem?_getD (l := out), List.getElem?_eq_getElem (show k < out.length by omega)]
    show ((plK n out k).set (out[k]).toNat ((k : Int) + 1)).getD _ 0 = _
    by_cases e : j = k
    · subst e
      rw [List.getD_eq_getElem?_getD, List.getElem?_set_self (by rw [plK_len]; omega)]
      rfl
    · have h1 := nodup_ne hn (i := k) (j := j) (by omega) hj (by omega)
      rw [List.getD_eq_getElem?_getD, List.getElem?_set_ne (by omega), ← List.getD_eq_getElem?_getD]
      exact plK_old hn hr k j hj (by omega) (by omega)
/-- a node's place is behind those of the nodes that it waits for -/
theorem place_lt {x : PatchD} (ok : okB x = true) {i : Nat} (hi : i < x.nodes.length) {s : Int} (hs : s ∈ waits (ndI x.nodes (i : Int))) :
    (plK x.nodes.length (orderL x.nodes) x.nodes.length).getD s.toNat 0 < (plK x.nodes.length (orderL x.nodes) x.nodes.length).getD i 0 := by
  have hl := (okR_len ok).2.1
  obtain ⟨a, ha, e⟩ := List.mem_iff_getElem.1 (okR_all ok hi)
  have hm := order_pref x.nodes a ha s (by rw [e]; exact hs)
  obtain ⟨b, hb, e2⟩ := List.mem_iff_getElem.1 hm
  rw [List.length_take] at hb
  rw [List.getElem_take] at e2
  have h1 := plK_old (orderL_nodup x.nodes) (order_rng ok) x.nodes.length a ha (by omega) (by omega)
  have h2 := plK_old (orderL_nodup x.nodes) (order_rng ok) x.nodes.length b (by omega) (by omega) (by omega)
  rw [e, Int.toNat_natCast] at h1
  rw [e2] at h2
  rw [h1, h2]
  omega
end Go.Proofs.YtaapkpjokmoekaaGreatDoor

namespace Go.Proofs.YtaapkpjokmoekaaGreatDoor
open Go.ChangeShapes Go.WideShapes Go.ChangeAt Go.RowKit Go.Sort
set_option linter.unusedVariables false

/-- a list of its own and a code -/
def RetI (w : World) (L : List Int) (code : Int) (e : Ending) (w' : World) : Prop := ∃ u M, e = .returned (.tuple #[u, .int .i64 code]) ∧ OwnLI w.heap.size w' u L M ∧ Dis M ∧ Below w.heap.size w w'
theorem RetI.mk {w w' : World} {L : List Int} {code : Int} {u : Value} {B : Nat} (h : OwnI B w' u L) (hB : w.heap.size ≤ B) (hb : Below w.heap.size w w') : RetI w L code (.returned (.tuple #[u, .int .i64 code])) w' :=
  ⟨u, [u], rfl, ⟨h.mono hB, rfl⟩, List.pairwise_singleton _ _, hb⟩
def orderRes (x : PatchD) : List Int := if okB x then orderL x.nodes else []
def orderCode (x : PatchD) : Int := if formedB x then (if (orderL x.nodes).length = x.nodes.length then 0 else 7) else 1
theorem orderRes_small (x : PatchD) : cntI (orderRes x) ≤ 1048576 := by
  unfold cntI orderRes
  split
  · rename_i h
    have h1 := (formed_iff.1 (by unfold okB at h; rw [Bool.and_eq_true] at h; exact h.1)).2.2.1
    have h2 := orderL_len x.nodes
    omega
  · show (0 : Nat) ≤ 1048576; omega
set_option maxHeartbeats 800000 in
theorem implOrderOf_v {v : Value} {x : PatchD} (w : World) (h : VPatch w v x) :
    Calls Tryz.prog 6 #[v] w (RetI w (orderRes x) (orderCode x)) := by
  have hv := h
  obtain ⟨p1, c1, p2, c2, p3, c3, rfl, r1, r2, r3⟩ := h
  have hl2 := r2.len
  unfold maxLen at hl2
  obtain ⟨g, hg⟩ : ∃ g, g = w.heap.size := ⟨_, rfl⟩
  obtain ⟨E0, hE0⟩ : ∃ E, E = w.alloc (.cells #[.int .i64 x.inputs, .slice p1 x.tables.length c1, .slice p2 x.nodes.length c2, .slice p3 x.outputs.length c3] 28) := ⟨_, rfl⟩
  have hB0 : Below w.heap.size w E0 := by rw [hE0]; exact (Below.refl _ _).alloc (Nat.le_refl _) _
  have bx : Box E0 g [.int .i64 x.inputs, .slice p1 x.tables.length c1, .slice p2 x.nodes.length c2, .slice p3 x.outputs.length c3] 28 := by rw [hE0, hg]; exact Box.newAt w _ _ rfl
  have HE := Lib.hid hE0
  have HG := Lib.hid hg
  clear hE0 hg r1 r2 r3
  have FM := Lib.hid (isWellFormed_v _ (hv.below hB0))
  have HR : Hid (∀ b, formedB x = b → orderRes x = (if b && decide ((orderL x.nodes).length = x.nodes.length) then orderL x.nodes else []) ∧ orderCode x = (if b then (if (orderL x.nodes).length = x.nodes.length then 0 else 7) else 1)) := fun b hb => by
    unfold orderRes orderCode okB; rw [hb]; exact ⟨rfl, rfl⟩
  generalize orderRes x = R at HR ⊢
  generalize orderCode x = C at HR ⊢
  have z0 := bx.cell 0 rfl
  have z1 := bx.cell 1 rfl
  have z2 := bx.cell 2 rfl
  have z3 := bx.cell 3 rfl
  cases hF : formedB x
  case false =>
    rw [hF] at FM
    obtain ⟨rfl, rfl⟩ := HR.out _ hF
    simp only [Bool.false_and, Bool.false_eq_true, if_false]
    go_enter Tryz.func6, Tryz.ntmps6
    go_upto_region 1 with fail
    rw [← HE.out, ← HG.out]
    go_wp2_with (go_at_call 20; refine FM.out.mono ?_; rintro e W1 ⟨rfl, hb1⟩)
    refine bodyPost_ret (v := .tuple #[.slice none 0 0, .int .i64 1]) (by simp [results, Tryz.results6, go_sem, *]) rfl ?_
    exact RetI.mk (OwnI.nil W1.heap.size _) (Nat.le_trans hB0.size hb1.size) (hB0.trans (hb1.mono hB0.size))
  rw [hF] at FM
  obtain ⟨rfl, rfl⟩ := HR.out _ hF
  have HO := Lib.hid (fun W hW => order_v W (hv.below hW) hF)
  have hle := orderL_len x.nodes
  simp only [Bool.true_and, decide_eq_true_eq, if_true]
  have HL : Hid (∀ (a b : Int), (if (orderL x.nodes).length = x.nodes.length then (0 : Int) else 7) = (if (orderL x.nodes).length < x.nodes.length then 7 else 0)) := fun _ _ => by
    by_cases h : (orderL x.nodes).length = x.nodes.length
    · rw [if_pos h, if_neg (by omega)]
    · rw [if_neg h, if_pos (by omega)]
  by_cases hL : (orderL x.nodes).length < x.nodes.length
  · have hN : ¬ (orderL x.nodes).length = x.nodes.length := by omega
    rw [if_neg hN, if_neg hN]
    clear HR HL hle hN
    go_enter Tryz.func6, Tryz.ntmps6
    go_upto_region 1 with fail
    rw [← HE.out, ← HG.out]
    go_wp2_with (go_at_call 20; refine FM.out.mono ?_; rintro e W1 ⟨rfl, hb1⟩; have y0 := (bx.below hb1).cell 0 rfl; have y1 := (bx.below hb1).cell 1 rfl; have y2 := (bx.below hb1).cell 2 rfl; have y3 := (bx.below hb1).cell 3 rfl)
    refine (HO.out W1 (hB0.trans (hb1.mono hB0.size))).mono ?_
    rintro e W2 ⟨u, rfl, ho, hb2⟩
    have x2 := ((bx.below hb1).below hb2).cell 2 rfl
    obtain ⟨up, uc, rfl, -⟩ := ho.rd
    have hB1 := hB0.trans (hb1.mono hB0.size)
    generalize (orderL x.nodes).length = m at hL ⊢
    clear ho
    go_wp2_with fail
    refine bodyPost_ret (v := .tuple #[.slice none 0 0, .int .i64 7]) (by simp [results, Tryz.results6, go_sem, *]) rfl ?_
    exact RetI.mk (OwnI.nil W2.heap.size _) (Nat.le_trans hB1.size hb2.size) (hB1.trans (hb2.mono hB1.size))
  · have hN : (orderL x.nodes).length = x.nodes.length := by omega
    rw [if_pos hN, if_pos hN]
    clear HR HL hle hN
    go_enter Tryz.func6, Tryz.ntmps6
    go_upto_region 1 with fail
    rw [← HE.out, ← HG.out]
    go_wp2_with (go_at_call 20; refine FM.out.mono ?_; rintro e W1 ⟨rfl, hb1⟩; have y0 := (bx.below hb1).cell 0 rfl; have y1 := (bx.below hb1).cell 1 rfl; have y2 := (bx.below hb1).cell 2 rfl; have y3 := (bx.below hb1).cell 3 rfl)
    refine (HO.out W1 (hB0.trans (hb1.mono hB0.size))).mono ?_
    rintro e W2 ⟨u, rfl, ho, hb2⟩
    have x2 := ((bx.below hb1).below hb2).cell 2 rfl
    have hh := ho
    obtain ⟨up, uc, rfl, -⟩ := hh.rd
    have hB1 := hB0.trans (hb1.mono hB0.size)
    have HO2 := Lib.hid ho
    generalize (orderL x.nodes).length = m at hL HO2 ⊢
    clear ho hh
    go_wp2_with fail
    refine bodyPost_ret (v := .tuple #[.slice up m uc, .int .i64 0]) (by simp [results, Tryz.results6, go_sem, *]) rfl ?_
    exact RetI.mk HO2.out hB1.size (hB1.trans (hb2.mono hB1.size))
/-- the code for a node of a patch -/
def askCode (x : PatchD) (node : Int) : Int := if okB x then (if inB node 0 (x.nodes.length - 1) then 0 else 2) else 1
theorem askCode_of {x : PatchD} {node : Int} {a b : Bool} (h1 : okB x = a) (h2 : inB node 0 (x.nodes.length - 1) = b) : askCode x node = if a then (if b then 0 else 2) else 1 := by unfold askCode; rw [h1, h2]
theorem okB_len {x : PatchD} (h : okB x = true) : formedB x = true ∧ (orderL x.nodes).length = x.nodes.length ∧ x.nodes.length ≤ 24 := by
  unfold okB at h
  rw [Bool.and_eq_true, decide_eq_true_iff] at h
  exact ⟨h.1, h.2, (formed_iff.1 h.1).2.2.1⟩
theorem any_contains' (xs : List Int) (n : Int) : xs.any (fun y => n == y) = xs.contains n := by
  rw [Bool.eq_iff_iff]
  simp
def usersK (nodes : List NodeD) (node : Int) (k : Nat) : List Int := ((List.range k).filter fun i => (nodes.getD i ⟨0, 0, 0, []⟩).src.contains node).map fun i => ((i : Nat) : Int)
theorem usersK_succ {nodes : List NodeD} {node : Int} {k : Nat} (h : k < nodes.length) {b : Bool} (hb : nodes[k].src.contains node = b) : usersK nodes node (k + 1) = usersK nodes node k ++ (if b then [(k : Int)] else []) := by
  unfold usersK
  rw [List.range_succ, List.filter_append, List.map_append]
  congr 1
  rw [List.filter_cons, getD_node h, hb]
  cases b <;> rfl
theorem usersK_len (nodes : List NodeD) (node : Int) (k : Nat) : (usersK nodes node k).length ≤ k := by
  unfold usersK
  rw [List.length_map]
  have := List.length_filter_le (fun i => (nodes.getD i ⟨0, 0, 0, []⟩).src.contains node) (List.range k)
  rw [List.length_range] at this
  exact this
def usersRes (x : PatchD) (node : Int) : List Int := if askCode x node = 0 then usersK x.nodes node x.nodes.length else []
theorem askCode_zero {x : PatchD} {node : Int} : askCode x node = 0 ↔ okB x = true ∧ inB node 0 (x.nodes.length - 1) = true := by
  unfold askCode
  cases okB x <;> cases inB node 0 ((x.nodes.length : Int) - 1) <;> simp
theorem usersRes_small (x : PatchD) (node : Int) : cntI (usersRes x node) ≤ 1048576 := by
  unfold cntI usersRes
  split
  · rename_i h
    have h1 := (okB_len (askCode_zero.1 h).1).2.2
    have h2 := usersK_len x.nodes node x.nodes.length
    omega
  · show (0 : Nat) ≤ 1048576; omega
end Go.Proofs.YtaapkpjokmoekaaGreatDoor

namespace Go.Proofs.YtaapkpjokmoekaaGreatDoor
open Go.ChangeShapes Go.WideShapes Go.ChangeAt Go.RowKit
set_option linter.unusedVariables false

/-! ### a slice of integers of the call's own that may begin within its block -/
def OwnQ (B : Nat) (w : World) (v : Value) (xs : List Int) : Prop :=
  ∃ p c, v = .slice p xs.length c ∧ xs.length ≤ c ∧ c ≤ maxLen ∧ (c = 0 ∨ ∃ g o, p = some ⟨g, o, none⟩ ∧ B ≤ g ∧ g < w.heap.size ∧ w.there g o c ∧ ∀ i (h : i < xs.length), w.cell? ⟨g, o + i, none⟩ = some (.int .i64 xs[i]))
theorem OwnQ.of {B : Nat} {w : World} {v : Value} {xs : List Int} (h : OwnI B w v xs) : OwnQ B w v xs := by
  have h' := h
  rcases h'.2 with ⟨rfl, h0⟩ | ⟨g, cap, cur, rfl, hb, hg, hn, hm, hs, ht⟩
  · obtain rfl : xs = [] := List.eq_nil_of_length_eq_zero h0
    exact ⟨none, 0, rfl, Nat.le_refl _, by simp [maxLen], .inl rfl⟩
  · have hgl : g < w.heap.size := (Array.getElem?_eq_some_iff.1 hg).1
    refine ⟨_, cap, rfl, hn, hm, .inr ⟨g, 0, rfl, hb, hgl, fun j hj => ⟨?_, World.ownsRow.frozenAt h _⟩, fun i hi => ?_⟩⟩
    · rw [cell_of_row w g _ cur _ (0, 0) hg]
      simp [hs, hj]
    · rw [Nat.zero_add, World.ownsRow.cellAt h i (by omega), List.getElem?_map, List.getElem?_eq_getElem hi]; rfl
theorem OwnQ.keep {B : Nat} {w w' : World} {v : Value} {xs : List Int} (h : OwnQ B w v xs) (hs : w.heap.size ≤ w'.heap.size) (hk : ∀ k, B ≤ k → k < w.heap.size → v.ownBlock = some k → w'.heap[k]? = w.heap[k]?) : OwnQ B w' v xs := by
  obtain ⟨p, c, rfl, h1, h2, h3⟩ := h
  refine ⟨p, c, rfl, h1, h2, h3.imp id fun ⟨g, o, e, hB, hg, ht, hc⟩ => ?_⟩
  subst e
  have hh := hk g hB hg rfl
  exact ⟨g, o, rfl, hB, by omega, fun j hj => ⟨by rw [World.cell?_of_block (a := ⟨g, o + j, none⟩) hh]; exact (ht j hj).1, by rw [World.frozen?_of_block (a := ⟨g, o + j, none⟩) hh]; exact (ht j hj).2⟩, fun i hi => (World.cell?_of_block (a := ⟨g, o + i, none⟩) hh).trans (hc i hi)⟩
theorem OwnQ.below {B : Nat} {w w' : World} {v : Value} {xs : List Int} (h : OwnQ B w v xs) (hb : Below w.heap.size w w') : OwnQ B w' v xs := h.keep hb.size fun k _ hk _ => hb.block k hk
theorem OwnQ.cons {B : Nat} {w : World} {v : Value} {x : Int} {xs : List Int} (h : OwnQ B w v (x :: xs)) :
    ∃ g o c, v = .slice (some ⟨g, o, none⟩) (xs.length + 1) (c + 1) ∧ xs.length ≤ c ∧ c + 1 ≤ maxLen ∧ B ≤ g ∧ g < w.heap.size ∧ w.cell? ⟨g, o, none⟩ = some (.int .i64 x) ∧
      OwnQ B w (.slice (if c + 1 = 1 then some ⟨g, o, none⟩ else some ⟨g, o + 1, none⟩) xs.length c) xs := by
  obtain ⟨p, c, rfl, h1, h2, h3⟩ := h
  simp only [List.length_cons] at h1
  obtain ⟨c, rfl⟩ : ∃ c', c = c' + 1 := ⟨c - 1, by omega⟩
  rcases h3 with h3 | ⟨g, o, rfl, hB, hg, ht, hc⟩
  · omega
  refine ⟨g, o, c, rfl, by omega, h2, hB, hg, hc 0 (by simp), ?_⟩
  refine ⟨_, c, rfl, by omega, by omega, ?_⟩
  by_cases e : c = 0
  · exact .inl e
  · refine .inr ⟨g, o + 1, by rw [if_neg (by omega)], hB, hg, fun j hj => ?_, fun i hi => ?_⟩
    · have := ht (j + 1) (by omega)
      rwa [show o + (j + 1) = o + 1 + j by omega] at this
    · have := hc (i + 1) (by simp; omega)
      rw [show o + (i + 1) = o + 1 + i by omega] at this
      rw [this]; simp
theorem setCells_frame (g : Nat) : ∀ (vs : List Value) (o : Nat) (w : World), (w.setCells g o vs).os = w.os ∧ (w.setCells g o vs).tape = w.tape ∧ (w.setCells g o vs).output = w.output ∧ (w.setCells g o vs).heap.size = w.heap.size ∧ ∀ k, k ≠ g → (w.setCells g o vs).heap[k]? = w.heap[k]?
  | [], _, _ => ⟨rfl, rfl, rfl, rfl, fun _ _ => rfl⟩
  | v :: vs, o, w => by
    obtain ⟨h1, h2, h3, h4, h5⟩ := setCells_frame g vs (o + 1) (w.setCell ⟨g, o, none⟩ v)
    exact ⟨h1, h2, h3, h4.trans (by simp [World.setCell]), fun k hk => (h5 k hk).trans (Below.heap_setCell _ _ _ _ hk)⟩
theorem srcI {w : World} {p : Option Addr} {ys : List Int} (h : RdI w p ys) (c : Nat) : Src Tryz.prog 1 26 (.slice p ys.length c) ys.length (ys.map (Value.int .i64)) w := by
  have one : ∀ u ∈ ys.map (Value.int .i64), u.oneCell' = true := by
    intro u hu
    simp only [List.mem_map] at hu
    obtain ⟨y, _, rfl⟩ := hu
    rfl
  rcases h.cells with rfl | ⟨b, o, rfl, hc⟩
  · cases p with
    | none => exact Src.ofNil w Tryz.underlying26 c
    | some a => exact Src.ofSlice w Tryz.underlying26 a 0 c [] (by simp) (by simp) (by simp)
  · refine Src.ofSlice w Tryz.underlying26 ⟨b, o, none⟩ ys.length c _ (by simp) (fun j u hu => ?_) one
    rw [List.getElem?_map] at hu
    rcases hj : ys[j]? with _ | y
    · rw [hj] at hu; simp at hu
    · rw [hj] at hu
      obtain ⟨hjl, hjy⟩ := List.getElem?_eq_some_iff.1 hj
      rw [Addr.add_lit, hc j hjl, hjy]
      simpa using hu
/-- append of a list to such a slice -/
theorem run_append_q (w : World) (ty : TypeId) {B : Nat} {v : Value} {xs ys : List Int} (hq : OwnQ B w v xs) {p : Option Addr} {c : Nat} (hr : RdI w p ys) (hlen : xs.length + ys.length ≤ 17592186044415) (hB : B ≤ w.heap.size) :
    ∃ v' w', (Builtin.append_ #[26, 26] ty #[v, .slice p ys.length c]).run Tryz.prog w = .ok v' w' ∧ OwnQ B w' v' (xs ++ ys) ∧ w.grownBy w' v.ownBlock := by
  obtain ⟨i0, hi, hz0, hz1, hz2⟩ := info_parts infoI
  have hS := srcI hr c
  obtain ⟨q, cc, rfl, h1, h2, h3⟩ := hq
  have e1 : (xs ++ ys).length = xs.length + ys.length := by simp
  by_cases hroom : xs.length + ys.length ≤ cc
  · rcases h3 with h3 | ⟨g, o, rfl, hBg, hg, ht, hc⟩
    · have hx : xs = [] := List.eq_nil_of_length_eq_zero (by omega)
      have hy : ys = [] := List.eq_nil_of_length_eq_zero (by omega)
      subst hx hy h3
      refine ⟨.slice q 0 0, w, ?_, ⟨q, 0, rfl, Nat.le_refl _, by simp [maxLen], .inl rfl⟩, ⟨rfl, rfl, rfl, Nat.le_refl _, fun _ _ _ => rfl⟩⟩
      cases q <;> cases p <;> simp [Builtin.append_, run_underlying Tryz.underlying26, sizeOf, typeInfo, hi, Builtin.lenOf, Builtin.firstCells, loadCells, loadCellsFrom, storeCells]
    · have hh := run_append_room_src w 26 26 ty 2 i0 Tryz.underlying26 hi g o xs.length cc (.slice p ys.length c) ys.length (ys.map (Value.int .i64)) (by rw [hz1]; exact hS) hroom
        (fun j hj => by rw [hz1, Nat.mul_one, Nat.add_assoc]; exact (ht _ (by simp at hj; omega)).1) (fun j hj => by rw [hz1, Nat.mul_one, Nat.add_assoc]; exact (ht _ (by simp at hj; omega)).2)
      rw [hz1, Nat.mul_one] at hh
      obtain ⟨f1, f2, f3, f4, f5⟩ := setCells_frame g (ys.map (Value.int .i64)) (o + xs.length) w
      refine ⟨_, _, hh, ⟨_, cc, by rw [e1], by omega, h2, .inr ⟨g, o, rfl, hBg, by omega, World.there_setCells ht _ _ _, fun i hi => ?_⟩⟩, ⟨f1, f2, f3, by omega, fun k _ hk => f5 k fun e => hk (by rw [e]; rfl)⟩⟩
      by_cases hix : i < xs.length
      · rw [World.cell?_setCells_out g _ _ _ _ (fun _ _ => Or.inl (by simp; omega)), hc i hix, List.getElem_append_left hix]
      · rw [e1] at hi
        have := World.cell?_setCells_in g (ys.map (Value.int .i64)) (o + xs.length) w (fun j hj => by rw [Nat.add_assoc]; exact (ht _ (by simp at hj; omega)).1) (i - xs.length) (by simp; omega)
        rw [show o + xs.length + (i - xs.length) = o + i by omega] at this
        rw [this, List.getElem_map, List.getElem_append_right (by omega)]
  · have hold : (Builtin.firstCells i0.size xs.length (.slice q xs.length cc)).run Tryz.prog w.drew = .ok (xs.map (Value.int .i64)).toArray w.drew := by
      rw [hz1]
      rcases h3 with h3 | ⟨g, o, rfl, hBg, hg, ht, hc⟩
      · have hx : xs = [] := List.eq_nil_of_length_eq_zero (by omega)
        subst hx
        cases q with
        | none => exact run_firstCells_none w.drew 1 0 0 cc
        | some a => exact run_firstCells_some w.drew 1 0 a 0 cc [] (by simp) (by simp)
      · refine run_firstCells_some w.drew 1 xs.length ⟨g, o, none⟩ xs.length cc _ (by simp) (fun j u hu => ?_)
        rw [List.getElem?_map] at hu
        rcases hj : xs[j]? with _ | y
        · rw [hj] at hu; simp at hu
        · rw [hj] at hu
          obtain ⟨hjl, hjy⟩ := List.getElem?_eq_some_iff.1 hj
          rw [Addr.add_lit]
          have := hc j hjl
          rw [hjy] at this
          simp only [Option.map_some, Option.some.injEq] at hu
          rw [← hu]
          exact this
    have hh := run_append_grow_src w 26 26 ty 2 i0 (.int .i64 0) Tryz.underlying26 hi hz0 q xs.length cc _ hold (.slice p ys.length c) ys.length _ (by rw [hz1]; exact hS) (by omega) (by omega)
      (by rw [hz2]; exact growslice_fits (by omega) (by omega))
    have hown : OwnI B (w.drew.alloc (.cells ((xs.map (Value.int .i64) ++ ys.map (Value.int .i64)).toArray ++ Builtin.zeroCells (Value.int .i64 0).cells (grownCap w (xs.length + ys.length) cc 2 - (xs.length + ys.length))) 2)) (.slice (some ⟨w.heap.size, 0, none⟩) (xs.length + ys.length) (grownCap w (xs.length + ys.length) cc 2)) (xs ++ ys) := by
      have hge := grownCap_ge w (xs.length + ys.length) cc 2
      have hcm : grownCap w (xs.length + ys.length) cc 2 ≤ maxLen := grownCap_le_maxLen w _ cc _ (by simp only [maxLen]; omega)
      unfold OwnI
      rw [e1]
      refine ⟨by simp, .inr ⟨w.heap.size, _, _, rfl, hB, heap_alloc_new w.drew _, hge, hcm, ?_, ?_⟩⟩
      · simp only [Array.size_append, List.size_toArray, size_zeroCells, List.length_append, List.length_map]
        show _ + _ * 1 = _
        omega
      · simp only [Array.toList_append, List.map_append]
        rw [show (xs.length + ys.length) * 1 = (xs.map (Value.int .i64) ++ ys.map (Value.int .i64)).length by simp]
        exact List.take_left
    exact ⟨_, _, hh, OwnQ.of hown, ⟨rfl, rfl, rfl, by simp, fun k hk _ => Below.heap_alloc w.drew _ k hk⟩⟩
theorem wpList_append_q {ops : Array Oper} {rest : List Oper} {o : Oper} {a : Act} {Q : Exit → Act → World → Prop} {w : World} (hgd : o.guard = none) (s x : Operand)
    (ho : o.op = .call { callee := .builtin .append, args := #[s, x], argTypes := #[26, 26] })
    {B : Nat} {v : Value} {xs ys : List Int} (hs : a.eval s = v) (hown : OwnQ B w v xs) {p : Option Addr} {m c : Nat} (hr : RdI w p ys) (hx : a.eval x = .slice p m c) (hm : m = ys.length) (hlen : xs.length + ys.length ≤ 17592186044415) (hB : B ≤ w.heap.size)
    (h : ∀ v' w', OwnQ B w' v' (xs ++ ys) → w.grownBy w' v.ownBlock → wpList Tryz.prog ops Q rest (a.put o.dst v') w') : wpList Tryz.prog ops Q (o :: rest) a w := by
  subst hm
  refine wpList_plain hgd fun K hK => ?_
  obtain ⟨v', w', h1, h2, h3⟩ := run_append_q w o.type hown (c := c) hr hlen hB
  unfold Oper.wp execOp
  simp only [ho, resolve, invoke, builtin, Sem.run_bind, Sem.run_pure, Result.andThen_ok, List.map_toArray, List.map_cons, List.map_nil, hs, hx, h1]
  exact hK _ _ (h v' w' h2 h3)
end Go.Proofs.YtaapkpjokmoekaaGreatDoor

namespace Go.Proofs.YtaapkpjokmoekaaGreatDoor
open Go.ChangeShapes Go.WideShapes Go.ChangeAt Go.RowKit Go.Sort
set_option linter.unusedVariables false

end Go.Proofs.YtaapkpjokmoekaaGreatDoor

namespace Go.Proofs.YtaapkpjokmoekaaGreatDoor
open Go.ChangeShapes Go.WideShapes Go.ChangeAt Go.RowKit
set_option linter.unusedVariables false

theorem mbool (m : List Bool) {f : Nat} (h : f < m.length) (h' : f < (m.map Value.bool).length) : (m.map Value.bool)[f] = .bool (m.getD f false) := by
  rw [List.getElem_map, List.getD_eq_getElem?_getD, List.getElem?_eq_getElem h]; rfl
theorem OwnV.apart {B B' : Nat} {w : World} {E E' : TypeId} {v v' : Value} {L L' : List Value} (h : OwnV B w E v L) (h' : OwnV B' w E' v' L') (hE : E ≠ E') {k : Nat} (hk : v.ownBlock = some k) : v'.ownBlock ≠ some k := by
  intro hk'
  rcases h.cases with ⟨rfl, -⟩ | ⟨g, cap, rfl, -, -, ⟨cur, hg⟩, -⟩
  · simp [Value.ownBlock] at hk
  rcases h'.cases with ⟨rfl, -⟩ | ⟨g', cap', rfl, -, -, ⟨cur', hg'⟩, -⟩
  · simp [Value.ownBlock] at hk'
  simp only [Value.ownBlock, Option.some.injEq] at hk hk'
  subst hk hk'
  rw [hg] at hg'
  simp only [Option.some.injEq, Obj.cells.injEq] at hg'
  exact hE hg'.2.1
theorem OwnI.asV {B : Nat} {w : World} {v : Value} {xs : List Int} (h : OwnI B w v xs) : OwnV B w 2 v (xs.map (Value.int .i64)) := by
  unfold OwnV; rw [List.length_map]; exact h
set_option maxHeartbeats 3200000 in
set_option maxRecDepth 100000 in
theorem neededMarks_v {v : Value} {x : PatchD} (w : World) (h : VPatch w v x) (ok : SrcOk x.nodes) (ho : ∀ i ∈ x.outputs, 0 ≤ i ∧ i < (x.nodes.length : Int)) (hn24 : x.nodes.length ≤ 24) (ho4 : x.outputs.length ≤ 4) :
    Calls Tryz.prog 64 #[v] w fun e w' => ∃ u, e = .returned u ∧ OwnV w.heap.size w' 4 u ((marksL x.nodes x.outputs).map Value.bool) ∧ Below w.heap.size w w' := by
  obtain ⟨p1, c1, p2, c2, p3, c3, rfl, r1, r2, r3⟩ := h
  clear r1
  obtain ⟨s, hs⟩ : ∃ s, s = w.heap.size := ⟨_, rfl⟩
  obtain ⟨E0, hE0⟩ : ∃ E, E = w.alloc (.cells #[.int .i64 x.inputs, .slice p1 x.tables.length c1, .slice p2 x.nodes.length c2, .slice p3 x.outputs.length c3] 28) := ⟨_, rfl⟩
  have hB0 : Below s w E0 := by rw [hE0, hs]; exact (Below.refl _ _).alloc (Nat.le_refl _) _
  have bx : Box E0 s [.int .i64 x.inputs, .slice p1 x.tables.length c1, .slice p2 x.nodes.length c2, .slice p3 x.outputs.length c3] 28 := by rw [hE0, hs]; exact Box.newAt w _ _ rfl
  have hsz0 : E0.heap.size = s + 1 := by rw [hE0, hs]; simp
  have HE := Lib.hid hE0
  have HS0 := Lib.hid hs
  clear hE0 hs
  have hmk := fun W => run_make_row' (P := Tryz.prog) 76 4 (.bool false) 1 Tryz.underlying76 infoB rfl .i64 .i64 x.nodes.length (by omega) (by omega) W
  have ht0 := OwnV.made (B := s + 1) E0 4 (.bool false) x.nodes.length (by omega) (by unfold maxLen; omega)
  obtain ⟨E1, hE1⟩ : ∃ E, E = E0.alloc (.cells (madeCells #[.bool false] x.nodes.length) 4) := ⟨_, rfl⟩
  rw [← hE1, hsz0] at ht0
  have hsz1 : E1.heap.size = s + 1 + 1 := by rw [hE1]; simp [hsz0]
  have hB1 : Below s w E1 := by rw [hE1]; exact hB0.alloc (by omega) _
  have hB01 : Below E0.heap.size E0 E1 := by rw [hE1]; exact (Below.refl _ _).alloc (Nat.le_refl _) _
  have bx1 := bx.below hB01
  have HE1 := Lib.hid hE1.symm
  clear hE1 hB01 hB0
  rw [← List.map_replicate (f := Value.bool)] at ht0
  have hMM : Hid (qrun x.nodes (4 * x.nodes.length + x.outputs.length) (List.replicate x.nodes.length false) x.outputs = marksL x.nodes x.outputs) := rfl
  generalize marksL x.nodes x.outputs = M at hMM ⊢
  have HC : Hid (Calls Tryz.prog 94 #[.slice p3 x.outputs.length c3] E1 fun e w' => ∃ v, e = .returned v ∧ OwnI E1.heap.size w' v x.outputs ∧ Below E1.heap.size E1 w') := clone_any E1 (r3.below (by rw [← HS0.out]; exact hB1)) (by omega)
  have z2 := bx.cell 2 rfl
  have z3 := bx1.cell 3 rfl
  have OK := Lib.hid ok
  have HO := Lib.hid ho
  clear ok ho r3
  go_enter Tryz.func64, Tryz.ntmps64
  go_upto_region 1 with fail
  rw [← HE.out, ← HS0.out]
  go_upto_region 2 with fail
  rw [HE1.out]
  clear z2
  go_wp2_with fail
  refine HC.out.mono ?_
  rintro e E2 ⟨v, rfl, hown, hb2⟩
  have hB2 := hB1.trans (hb2.mono (by omega))
  have bx2 := bx1.below hb2
  have ht2 := ht0.below hb2
  have hq2 := (OwnQ.of hown).below (Below.refl _ _)
  rw [hsz1] at hq2
  clear z3 HC ht0 hown bx bx1 hmk HE HE1
  go_wp2_with fail
  go_loopg [4, 5] (4 * x.nodes.length + x.outputs.length) (fun f tv iv wr => ∃ (m : List Bool) (t : List Int), f ≤ 100 ∧ Hid (qrun x.nodes f m t = M) ∧ Hid (4 * unm m + t.length ≤ f) ∧ t.length ≤ f ∧ Hid (m.length = x.nodes.length) ∧ Hid (∀ i ∈ t, 0 ≤ i ∧ i < (x.nodes.length : Int)) ∧
      OwnQ (s + 1 + 1) wr tv t ∧ OwnV (s + 1) wr 4 (.slice (some ⟨s + 1, 0, none⟩) x.nodes.length x.nodes.length) (m.map Value.bool) ∧ Below s w wr ∧ Box wr s [.int .i64 x.inputs, .slice p1 x.tables.length c1, .slice p2 x.nodes.length c2, .slice p3 x.outputs.length c3] 28)
  case atStart => exact ⟨_, x.outputs, by omega, hMM, by unfold Hid; rw [unm_false]; omega, by omega, by unfold Hid; simp, HO, hq2, ht2, hB2, bx2⟩
  case round =>
    obtain ⟨m, t, hf, HQ, HU, htl, HL, HT, hq, hm, hbel, hbx⟩ := hrel
    clear hq2 ht2 hB2 bx2 hMM HO
    obtain ⟨wi, rfl⟩ : ∃ wi : World, wi = wr := ⟨_, rfl⟩
    cases t with
    | nil =>
      obtain ⟨qp, qc, rfl, -, -, -⟩ := hq
      have HM : Hid (m = M) := by have := HQ.out; cases gk <;> exact this
      go_wp2_with fail
      go_ret
      exact ⟨_, rfl, by rw [← HM.out, ← HS0.out]; exact hm.mono (by omega), by rw [← HS0.out]; exact hbel⟩
    | cons i t =>
      obtain ⟨g, o, c, rfl, hc1, hc2, hBg, hgl, hci, hqt⟩ := hq.cons
      obtain ⟨hi0, hi1⟩ := HT.out i (List.mem_cons_self ..)
      obtain ⟨k, rfl⟩ : ∃ k : Nat, i = k := ⟨i.toNat, by omega⟩
      have hkn : k < x.nodes.length := by omega
      simp only [List.length_cons] at htl
      obtain ⟨f, rfl⟩ : ∃ f, gk = f + 1 := ⟨gk - 1, by omega⟩
      have hkm : k < m.length := by rw [HL.out]; exact hkn
      have hkv : k < (m.map Value.bool).length := by rw [List.length_map]; exact hkm
      obtain ⟨-, -, hsl, hck, hfk, hset⟩ := hm.storing (k := k) hkv
      rw [mbool m hkm hkv] at hck
      have hbel' : Below w.heap.size w wi := by rw [← HS0.out]; exact hbel
      have HCH : Hid (∃ p' c', OwnQ (s + 1 + 1) wi (.slice p' t.length c') t ∧ ((c = 0 ∧ p' = some ⟨g, o, none⟩ ∧ c' = 0) ∨ ∃ c2, c = c2 + 1 ∧ p' = some ⟨g, o + 1, none⟩ ∧ c' = c2 + 1)) := by
        rcases Nat.eq_zero_or_pos c with rfl | hcp
        · exact ⟨_, _, hqt, .inl ⟨rfl, by simp, rfl⟩⟩
        · exact ⟨_, _, hqt, .inr ⟨c - 1, by omega, by rw [if_neg (by omega)], by omega⟩⟩
      have HG1 := Lib.hid hBg
      clear hqt hc1
      cases hb : m.getD k false
      case true =>
        rw [hb] at hck
        have HN : Hid (qrun x.nodes f m t = M) := by have := HQ.out; rw [qrun, Int.toNat_natCast, if_pos hb] at this; exact this
        have HU' : Hid (4 * unm m + t.length ≤ f) := by have := HU.out; unfold Hid; simp only [List.length_cons] at this; omega
        have HT' : Hid (∀ i ∈ t, 0 ≤ i ∧ i < (x.nodes.length : Int)) := fun i hi => HT.out i (List.mem_cons_of_mem _ hi)
        clear hb HQ HU HT hset hkv hkm
        obtain ⟨p', c', hqt, ⟨rfl, rfl, rfl⟩ | ⟨c2, rfl, rfl, rfl⟩⟩ := HCH.out
        all_goals
          clear HCH
          have HQT := Lib.hid hqt
          clear hqt
          go_wp2_with fail
          go_roundg f
          case measure => omega
          case rel => exact ⟨m, t, by omega, HN, HU', by omega, HL, HT', HQT.out, hm, hbel, hbx⟩
      case false =>
        rw [hb] at hck
        have HN : Hid (qrun x.nodes f (m.set k true) (t ++ srcs x.nodes k) = M) := by have := HQ.out; rw [qrun, Int.toNat_natCast, if_neg (by rw [hb]; simp)] at this; exact this
        have hs3 := srcs_len OK.out (k : Int)
        have HU' : Hid (4 * unm (m.set k true) + (t ++ srcs x.nodes k).length ≤ f) := by
          have h1 := HU.out
          have h2 := unm_set m k hkm hb
          unfold Hid
          simp only [List.length_cons] at h1
          rw [List.length_append]
          omega
        have htl' : t.length + (srcs x.nodes k).length ≤ f := by have := HU'.out; rw [List.length_append] at this; omega
        have HT' : Hid (∀ i ∈ t ++ srcs x.nodes k, 0 ≤ i ∧ i < (x.nodes.length : Int)) := fun i hi => by
          rcases List.mem_append.1 hi with hi | hi
          · exact HT.out i (List.mem_cons_of_mem _ hi)
          · exact srcs_rng OK.out hi
        have hse : srcs x.nodes (k : Int) = x.nodes[k].src := by unfold srcs; rw [Int.toNat_natCast, getD_node hkn]
        obtain ⟨b2, o2, rfl, hbl2, hcc⟩ := r2.pos hkn
        obtain ⟨-, -, -, q, d, y3, hr⟩ := hcc k hkn
        rw [← hse] at y3 hr
        generalize srcs x.nodes (k : Int) = ys at HN hs3 HU' htl' HT' y3 hr
        have HM1 : Hid (OwnV (s + 1) (wi.setCell ⟨s + 1, k, none⟩ (.bool true)) 4 (.slice (some ⟨s + 1, 0, none⟩) x.nodes.length x.nodes.length) ((m.set k true).map Value.bool)) := by
          have := hset (.bool true)
          rw [← List.map_set] at this
          exact this
        have hb1 : Below w.heap.size w (wi.setCell ⟨s + 1, k, none⟩ (.bool true)) := hbel'.setCell (by simp; rw [← HS0.out]; omega) _
        have hbx1 := hbx.other (a := ⟨s + 1, k, none⟩) (by simp) (.bool true)
        obtain ⟨F, hF⟩ : ∃ F, F = wi.setCell ⟨s + 1, k, none⟩ (.bool true) := ⟨_, rfl⟩
        rw [← hF] at HM1 hb1 hbx1
        have HF := Lib.hid hF
        have hrF := hr.below hb1
        have Y3 := (hb1.cell (p := ⟨b2, o2 + k * 4 + 3, none⟩) hbl2).trans y3
        have z2 := hbx1.cell 2 rfl
        have HCF : Hid (∀ p' c', OwnQ (s + 1 + 1) wi (.slice p' t.length c') t → OwnQ (s + 1 + 1) F (.slice p' t.length c') t) := fun p' c' hqt => by
          rw [hF]; exact hqt.keep (by simp [World.setCell]) fun j hj _ _ => Below.heap_setCell _ _ _ _ (by simp; omega)
        have hlF : s + 1 + 1 ≤ F.heap.size := by rw [hF]; simp [World.setCell]; omega
        have HLM : Hid ((m.set k true).length = x.nodes.length) := by unfold Hid; rw [List.length_set]; exact HL.out
        clear hb HQ HU HT hset hkv hkm hse hcc hr y3 hm hF
        obtain ⟨p', c', hqt, ⟨rfl, rfl, rfl⟩ | ⟨c2, rfl, rfl, rfl⟩⟩ := HCH.out
        all_goals
          have hqF := HCF.out _ _ hqt
          clear hqt HCH HCF
          go_upto_region 8 with fail
          rw [← HF.out]
          go_wp2_with (at_builtin; refine wpList_append_q rfl _ _ rfl rfl hqF hrF rfl rfl (by omega) hlF ?_; intro v' w4 hq4 hg4)
          replace hg4 : F.grownBy w4 (some g) := hg4
          have hb4 : Below w.heap.size w w4 := by
            refine hb1.grown hg4 (by have := HS0.out; omega) fun j hj => ?_
            have e1 := HG1.out
            have e2 := HS0.out
            simp only [Option.some.injEq] at hj
            omega
          have hm4 := HM1.out.keep (w' := w4) fun j hj => by
            have e1 := HG1.out
            have e3 := (HM1.out.lt hj).2
            have e4 : s + 1 = j := by simpa [Value.ownBlock] using hj
            exact hg4.block j e3 (by simp; omega)
          have hbx4 := hbx1.keep (hg4.block s (by omega) (by have := HG1.out; simp; omega))
          go_roundg f
          case measure => omega
          case rel => exact ⟨m.set k true, t ++ ys, by omega, HN, HU', by rw [List.length_append]; omega, HLM, HT', hq4, hm4, by rw [HS0.out]; exact hb4, hbx4⟩
set_option maxHeartbeats 1600000 in
set_option maxRecDepth 100000 in
theorem needed_v {v : Value} {x : PatchD} (w : World) (h : VPatch w v x) (hf : formedB x = true) :
    Calls Tryz.prog 27 #[v] w fun e w' => ∃ u, e = .returned u ∧ OwnI w.heap.size w' u (need x) ∧ Below w.heap.size w w' := by
  have hv := h
  have hn24 := (formed_iff.1 hf).2.2.1
  have ho4 := (formed_iff.1 hf).2.2.2.1
  obtain ⟨p1, c1, p2, c2, p3, c3, rfl, r1, r2, r3⟩ := h
  clear r1 r2 r3
  obtain ⟨s, hs⟩ : ∃ s, s = w.heap.size := ⟨_, rfl⟩
  obtain ⟨E1, hE1⟩ : ∃ E, E = (w.alloc (.cells #[.int .i64 x.inputs, .slice p1 x.tables.length c1, .slice p2 x.nodes.length c2, .slice p3 x.outputs.length c3] 28)).alloc (.cells #[] 2) := ⟨_, rfl⟩
  have hB0 : Below w.heap.size w (w.alloc (.cells #[.int .i64 x.inputs, .slice p1 x.tables.length c1, .slice p2 x.nodes.length c2, .slice p3 x.outputs.length c3] 28)) := (Below.refl _ _).alloc (Nat.le_refl _) _
  have hB1 : Below w.heap.size w E1 := by rw [hE1]; exact hB0.alloc (by simp) _
  have bx : Box E1 s [.int .i64 x.inputs, .slice p1 x.tables.length c1, .slice p2 x.nodes.length c2, .slice p3 x.outputs.length c3] 28 := by rw [hE1, hs]; exact (Box.newAt w _ _ rfl).alloc _
  have h0 : OwnI (s + 1) E1 (.slice (some ⟨s + 1, 0, none⟩) 0 0) [] := by
    have := OwnI.lit (B := s + 1) (w.alloc (.cells #[.int .i64 x.inputs, .slice p1 x.tables.length c1, .slice p2 x.nodes.length c2, .slice p3 x.outputs.length c3] 28)) [] (by rw [hs]; simp) (by simp [maxLen])
    rw [hE1]
    rw [hs] at this ⊢
    simpa using this
  have HN : Hid (Calls Tryz.prog 64 #[.agg #[.int .i64 x.inputs, .slice p1 x.tables.length c1, .slice p2 x.nodes.length c2, .slice p3 x.outputs.length c3]] E1 fun e w' => ∃ u, e = .returned u ∧ OwnV E1.heap.size w' 4 u ((marksL x.nodes x.outputs).map Value.bool) ∧ Below E1.heap.size E1 w') := neededMarks_v E1 (hv.below hB1) (formed_src hf) (formed_outs hf) hn24 ho4
  have HML : Hid ((marksL x.nodes x.outputs).length = x.nodes.length) := (marksL_end (formed_src hf) (formed_outs hf)).len
  have HNE : Hid (ups (marksL x.nodes x.outputs) x.nodes.length = need x) := rfl
  generalize need x = R at HNE ⊢
  generalize marksL x.nodes x.outputs = M at HN HML HNE
  have hsz1 : E1.heap.size = s + 1 + 1 := by rw [hE1, hs]; simp
  have HE := Lib.hid hE1
  have HS := Lib.hid hs
  clear hE1 hs hv hf hB0
  have z0 := bx.cell 0 rfl
  have z1 := bx.cell 1 rfl
  have z2 := bx.cell 2 rfl
  have z3 := bx.cell 3 rfl
  go_enter Tryz.func27, Tryz.ntmps27
  go_upto_region 2 with fail
  rw [← HE.out, ← HS.out]
  go_wp2_with fail
  refine HN.out.mono ?_
  rintro e E2 ⟨u, rfl, hm, hb2⟩
  have h02 := h0.below hb2
  have hB2 := hB1.trans (hb2.mono hB1.size)
  rcases hm.cases with ⟨rfl, e0⟩ | ⟨g, mc, rfl, hgB, hgl, -, -⟩
  · have hn0 : x.nodes.length = 0 := by rw [← HML.out]; simpa using congrArg List.length e0
    have HR : Hid ([] = R) := by unfold Hid; rw [← HNE.out, hn0]; rfl
    clear HN HNE HML z0 z1 z2 z3 bx h0
    have : (List.map Value.bool M).length = 0 := by rw [e0]; rfl
    go_wp2_with fail
    go_loopw [3, 4, 5, 10] (fun ov _ _ iv wr => iv = .int .i64 (0 : Nat) ∧ ov = .slice (some ⟨s + 1, 0, none⟩) 0 0 ∧ wr = E2) (fun _ _ _ _ _ => 0)
    case atStart => exact ⟨rfl, rfl, rfl⟩
    case round =>
      obtain ⟨rfl, rfl, rfl⟩ := hrel
      go_wp2_with fail
      go_ret
      exact ⟨_, rfl, by rw [← HR.out, ← HS.out]; exact h02.mono (by omega), hB2⟩
  have hcl : (List.map Value.bool M).length = x.nodes.length := by rw [List.length_map]; exact HML.out
  rw [hcl] at hm ⊢
  clear hcl HN z0 z1 z2 z3 bx h0
  go_wp2_with fail
  go_loopw [3, 4, 5, 10] (fun ov _ _ iv wr => ∃ k : Nat, k ≤ x.nodes.length ∧ iv = .int .i64 k ∧ OwnI (s + 1) wr ov (ups M k) ∧ OwnV E1.heap.size wr 4 (.slice (some ⟨g, 0, none⟩) x.nodes.length mc) (M.map Value.bool) ∧ Below w.heap.size w wr) (fun _ _ _ iv _ => x.nodes.length - (intOf iv).toNat)
  case atStart => exact ⟨0, Nat.zero_le _, rfl, h02, hm, hB2⟩
  case round =>
    obtain ⟨k, hk, rfl, hown, hmr, hbel⟩ := hrel
    clear h02 hm hB2
    obtain ⟨wi, rfl⟩ : ∃ wi : World, wi = wr := ⟨_, rfl⟩
    have hul := ups_length M k
    have hsz := hbel.size
    by_cases hlt : k < x.nodes.length
    · have hkm : k < M.length := by rw [HML.out]; exact hlt
      have hkv : k < (M.map Value.bool).length := by rw [List.length_map]; exact hkm
      obtain ⟨-, -, hgl2, hck, -, -⟩ := hmr.storing (k := k) hkv
      rw [mbool M hkm hkv] at hck
      have HU : Hid (∀ b, M.getD k false = b → ups M (k + 1) = ups M k ++ (if b then [(k : Int)] else [])) := fun b hb => ups_succ M k hb
      cases hb : M.getD k false
      case false =>
        rw [hb] at hck
        have HU2 := Lib.hid (HU.out _ hb)
        clear hb HU hkm hkv
        go_wp2_with fail
        go_roundw
        case rel => exact ⟨k + 1, by omega, by go_num, by rw [HU2.out]; simpa using hown, hmr, hbel⟩
        case measure => simp [intOf] <;> omega
      case true =>
        rw [hb] at hck
        have HU2 := Lib.hid (HU.out _ hb)
        clear hb HU hkm hkv
        have hs1 : s + 1 ≤ wi.heap.size := by omega
        go_wp2_with (at_builtin; refine wpList_append_one rfl _ _ rfl rfl hown rfl hbel (by omega) hs1 (by have := HS.out; omega) ?_; intro v' w4 hown4 hb4 hz4 hk4)
        go_roundw
        case rel => exact ⟨k + 1, by omega, by go_num, by rw [HU2.out]; exact hown4, hmr.keep fun j hj => hk4 j (hmr.lt hj).2 (fun e => hmr.apart hown.asV (by decide) hj e), hb4⟩
        case measure => simp [intOf] <;> omega
    · obtain rfl : k = x.nodes.length := by omega
      have HR := HNE
      clear HNE
      generalize hU : ups M x.nodes.length = U at hown HR hul
      clear hU
      have hh := hown
      obtain ⟨up, uc, rfl, -⟩ := hh.rd
      have HO := Lib.hid hown
      clear hown hh
      go_wp2_with fail
      go_ret
      exact ⟨_, rfl, by rw [← HR.out, ← HS.out]; exact HO.out.mono (by omega), hbel⟩
end Go.Proofs.YtaapkpjokmoekaaGreatDoor

namespace Go.Proofs.YtaapkpjokmoekaaGreatDoor
open Go.ChangeShapes Go.WideShapes Go.ChangeAt Go.RowKit
set_option linter.unusedVariables false

theorem putAll_snoc {out l : List Int} {k : Nat} (h : k < l.length) : putAll out (l.take (k + 1)) = putR (putAll out (l.take k)) l[k] := by
  unfold putAll
  rw [List.take_succ_eq_append_getElem h, List.foldl_append]
  rfl
theorem putAll_cons {out l : List Int} {k : Nat} (h : k < l.length) : putAll out (l.drop k) = putAll (putR out l[k]) (l.drop (k + 1)) := by
  rw [List.drop_eq_getElem_cons h]; rfl
theorem rndL_cons {nodes : List NodeD} {out l : List Int} {k : Nat} (h : k < l.length) : rndL nodes out (l.drop k) = rndL nodes (putAll out (srcs nodes l[k])) (l.drop (k + 1)) := by
  rw [List.drop_eq_getElem_cons h]; rfl
/-- rising places in the patch: not more than there are nodes -/
def Pl (n : Nat) (xs : List Int) : Prop := Rising xs ∧ ∀ i ∈ xs, 0 ≤ i ∧ i < (n : Int)
theorem Pl.len {n : Nat} {xs : List Int} (h : Pl n xs) : xs.length ≤ n := rising_len (a := 0) h.1 fun i hi => by have := h.2 i hi; omega
theorem Pl.put {n : Nat} {xs : List Int} (h : Pl n xs) {i : Int} (h0 : 0 ≤ i) (h1 : i < (n : Int)) : Pl n (putR xs i) := ⟨putR_rising h.1, fun j hj => by
  rcases mem_putR.1 hj with rfl | hj
  · exact ⟨h0, h1⟩
  · exact h.2 j hj⟩
theorem Pl.nil (n : Nat) : Pl n [] := ⟨by simp [Rising], by simp⟩
def needRes (x : PatchD) : List Int := if okB x then need x else []
theorem needRes_small (x : PatchD) : cntI (needRes x) ≤ 1048576 := by
  unfold cntI needRes
  split
  · rename_i h
    have h1 := okB_n24 h
    have h2 := need_length x
    omega
  · simp
set_option maxHeartbeats 800000 in
theorem implNeededNodes_v {v : Value} {x : PatchD} (w : World) (h : VPatch w v x) :
    Calls Tryz.prog 12 #[v] w (RetI w (needRes x) (okCode x)) := by
  have hv := h
  obtain ⟨p1, c1, p2, c2, p3, c3, rfl, r1, r2, r3⟩ := h
  clear r1 r2 r3
  have hB0 : Below w.heap.size w (w.alloc (.cells #[.int .i64 x.inputs, .slice p1 x.tables.length c1, .slice p2 x.nodes.length c2, .slice p3 x.outputs.length c3] 28)) := (Below.refl _ _).alloc (Nat.le_refl _) _
  have bx := Box.newAt w [.int .i64 x.inputs, .slice p1 x.tables.length c1, .slice p2 x.nodes.length c2, .slice p3 x.outputs.length c3] 28 rfl
  generalize hE : w.alloc (.cells #[.int .i64 x.inputs, .slice p1 x.tables.length c1, .slice p2 x.nodes.length c2, .slice p3 x.outputs.length c3] 28) = E0 at *
  have HE := Lib.hid hE.symm
  clear hE
  have OK := Lib.hid (isPatch_v _ (hv.below hB0))
  have z0 := bx.cell 0 rfl
  have z1 := bx.cell 1 rfl
  have z2 := bx.cell 2 rfl
  have z3 := bx.cell 3 rfl
  cases hF : okB x
  case false =>
    rw [hF] at OK
    rw [show needRes x = [] from by unfold needRes; rw [hF]; rfl, show okCode x = 1 from by unfold okCode; rw [hF]; rfl]
    go_enter Tryz.func12, Tryz.ntmps12
    go_upto_region 1 with fail
    rw [← HE.out]
    go_wp2_with fail
    refine OK.out.mono ?_
    rintro e W1 ⟨rfl, hb1⟩
    clear z0 z1 z2 z3
    go_wp2_with fail
    refine bodyPost_ret (v := .tuple #[.slice none 0 0, .int .i64 1]) (by simp [results, Tryz.results12, go_sem, *]) rfl ?_
    exact RetI.mk (OwnI.nil W1.heap.size _) (Nat.le_trans hB0.size hb1.size) (hB0.trans (hb1.mono hB0.size))
  rw [hF] at OK
  rw [show needRes x = need x from by unfold needRes; rw [hF]; rfl, show okCode x = 0 from by unfold okCode; rw [hF]; rfl]
  have NE : Hid (∀ W, Below E0.heap.size E0 W → Calls Tryz.prog 27 #[.agg #[.int .i64 x.inputs, .slice p1 x.tables.length c1, .slice p2 x.nodes.length c2, .slice p3 x.outputs.length c3]] W fun e w' => ∃ u, e = .returned u ∧ OwnI W.heap.size w' u (need x) ∧ Below W.heap.size W w') := fun W hW => needed_v W (hv.below (hB0.trans (hW.mono hB0.size))) (okB_len hF).1
  have hnl := need_length x
  have hn24 := okB_n24 hF
  generalize need x = R at NE hnl ⊢
  clear hv
  go_enter Tryz.func12, Tryz.ntmps12
  go_upto_region 1 with fail
  rw [← HE.out]
  go_wp2_with fail
  refine OK.out.mono ?_
  rintro e W1 ⟨rfl, hb1⟩
  have bx1 := bx.below hb1
  clear z0 z1 z2 z3
  have z0 := bx1.cell 0 rfl
  have z1 := bx1.cell 1 rfl
  have z2 := bx1.cell 2 rfl
  have z3 := bx1.cell 3 rfl
  go_wp2_with fail
  refine (NE.out W1 hb1).mono ?_
  rintro e W2 ⟨u, rfl, ho, hb2⟩
  have hB1 := hB0.trans (hb1.mono hB0.size)
  have hh := ho
  obtain ⟨up, uc, rfl, -⟩ := hh.rd
  have HO := Lib.hid ho
  clear ho hh z0 z1 z2 z3
  go_wp2_with fail
  refine bodyPost_ret (v := .tuple #[.slice up R.length uc, .int .i64 0]) (by simp [results, Tryz.results12, go_sem, *]) rfl ?_
  exact RetI.mk HO.out hB1.size (hB1.trans (hb2.mono hB1.size))
end Go.Proofs.YtaapkpjokmoekaaGreatDoor

namespace Go.Proofs.YtaapkpjokmoekaaGreatDoor
open Go.ChangeShapes Go.WideShapes Go.ChangeAt Go.RowKit
set_option linter.unusedVariables false

theorem formed_small {x : PatchD} (h : formedB x = true) : Small x := by
  have hf := formed_iff.1 h
  have ok := formed_src h
  have ht := hf.2.1
  unfold tablesB at ht
  simp only [Bool.and_eq_true, List.all_eq_true, decide_eq_true_eq] at ht
  refine ⟨by omega, fun t ht' => ?_, by omega, fun n hn => by have := ok.len n hn; omega, by omega⟩
  have := ht.1 t ht'
  unfold tblB at this
  simp only [Bool.and_eq_true, Bool.or_eq_true, decide_eq_true_eq] at this
  omega
theorem OwnN.empty {B : Nat} (w : World) (hB : B ≤ w.heap.size) : OwnN B (w.alloc (.cells #[] 35)) (.slice (some ⟨w.heap.size, 0, none⟩) 0 0) [] [] := by
  have h := World.ownsRow_lit (base := B) (e := 35) (size := 4) w #[] 0 hB (by simp [maxLen]) (by simp)
  exact ⟨rfl, by simpa [nodeCells] using h⟩
theorem nodeAt_eq {nodes : List NodeD} {m : Nat} (h : m < nodes.length) : nodeAt nodes (m : Int) = nodes[m] := by
  unfold nodeAt; rw [Int.toNat_natCast, List.getD_eq_getElem?_getD, List.getElem?_eq_getElem h]; rfl
end Go.Proofs.YtaapkpjokmoekaaGreatDoor

namespace Go.Proofs.YtaapkpjokmoekaaGreatDoor
open Go.ChangeShapes Go.WideShapes Go.ChangeAt Go.RowKit
set_option linter.unusedVariables false

/-- a patch behind a pointer, out of its parts -/
theorem OwnP.vpatch {B : Nat} {w : World} {v1 v2 v3 : Value} {ts : List (List Int)} {ns : List NodeD} {os : List Int} {L1 L : List Value} (h : OwnP B w v1 v2 v3 ts ns os L1 L) (inp : Int) : VPatch w (.agg #[.int .i64 inp, v1, v2, v3]) ⟨inp, ts, ns, os⟩ := (h.patch inp).1.rd
theorem pp_of {w : World} {s : Nat} {inp : Int} {v1 v2 v3 : Value} {x : PatchD} (hv : VPatch w (.agg #[.int .i64 inp, v1, v2, v3]) x) (bx : Box w s [.int .i64 inp, v1, v2, v3] 28) : PPatch w s x := by
  obtain ⟨p1, c1, p2, c2, p3, c3, e, r1, r2, r3⟩ := hv
  simp only [Value.agg.injEq, Array.mk.injEq, List.cons.injEq, and_true] at e
  obtain ⟨e0, rfl, rfl, rfl⟩ := e
  rw [e0] at bx
  exact ⟨p1, c1, p2, c2, p3, c3, bx, r1, r2, r3⟩
end Go.Proofs.YtaapkpjokmoekaaGreatDoor
