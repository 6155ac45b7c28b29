/-
  Two patches one after the other: plain model; what is appended to a list of lists.
-/
import Derived.Test.YtalomhakmfknjaaKeepM
import Derived.Test.YtalomhakmfknjaaPB
import Derived.Test.YtalomhakmfknjaaStepA
namespace Go.Proofs.Ytalomhakmfknjaa
open Go.ChangeShapes Go.WideShapes Go.ChangeAt Go.RowKit
set_option linter.unusedVariables false

/-- the place that each node of the second patch gets; a: the next free place -/
def chBy (outs : List Int) : Nat → List NodeD → List Int
  | _, [] => []
  | a, n :: ns => if n.kind = 1 then outs.getD n.a.toNat 0 :: chBy outs a ns else (a : Int) :: chBy outs (a + 1) ns
def chCnt : Nat → List NodeD → Nat
  | a, [] => a
  | a, n :: ns => if n.kind = 1 then chCnt a ns else chCnt (a + 1) ns
def chN (t : Int) (by_ : List Int) (n : NodeD) : NodeD := ⟨n.kind, if n.kind = 13 then n.a + t else n.a, n.b, mapL by_ n.src⟩
def chNs (t : Int) (by_ : List Int) : List NodeD → List NodeD
  | [] => []
  | n :: ns => if n.kind = 1 then chNs t by_ ns else chN t by_ n :: chNs t by_ ns
def chainBy (p q : PatchD) : List Int := chBy p.outputs p.nodes.length q.nodes
def chainP (p q : PatchD) : PatchD := ⟨p.inputs, p.tables ++ q.tables, p.nodes ++ chNs p.tables.length (chainBy p q) q.nodes, mapL (chainBy p q) q.outputs⟩
theorem chBy_length : ∀ (outs : List Int) (a : Nat) (ns : List NodeD), (chBy outs a ns).length = ns.length
  | _, _, [] => rfl
  | outs, a, n :: ns => by
    unfold chBy
    split
    · rw [List.length_cons, chBy_length, List.length_cons]
    · rw [List.length_cons, chBy_length, List.length_cons]
theorem chNs_length : ∀ (t : Int) (by_ : List Int) (a : Nat) (ns : List NodeD), a + (chNs t by_ ns).length = chCnt a ns
  | _, _, _, [] => rfl
  | t, by_, a, n :: ns => by
    unfold chNs chCnt
    split
    · exact chNs_length t by_ a ns
    · rw [List.length_cons, ← chNs_length t by_ (a + 1) ns]; omega
theorem chCnt_le : ∀ (a : Nat) (ns : List NodeD), a ≤ chCnt a ns ∧ chCnt a ns ≤ a + ns.length
  | a, [] => ⟨Nat.le_refl _, Nat.le_refl _⟩
  | a, n :: ns => by
    unfold chCnt
    split
    · have := chCnt_le a ns
      rw [List.length_cons]; omega
    · have := chCnt_le (a + 1) ns
      rw [List.length_cons]; omega
theorem chBy_in {outs : List Int} {a : Nat} {ns : List NodeD} {k : Nat} (h : k < ns.length) (hk : ns[k].kind = 1) : chBy outs a (ns.drop k) = outs.getD ns[k].a.toNat 0 :: chBy outs a (ns.drop (k + 1)) := by
  rw [List.drop_eq_getElem_cons h, chBy, if_pos hk]
theorem chBy_out {outs : List Int} {a : Nat} {ns : List NodeD} {k : Nat} (h : k < ns.length) (hk : ns[k].kind ≠ 1) : chBy outs a (ns.drop k) = (a : Int) :: chBy outs (a + 1) (ns.drop (k + 1)) := by
  rw [List.drop_eq_getElem_cons h, chBy, if_neg hk]
theorem chCnt_in {a : Nat} {ns : List NodeD} {k : Nat} (h : k < ns.length) (hk : ns[k].kind = 1) : chCnt a (ns.drop k) = chCnt a (ns.drop (k + 1)) := by
  rw [List.drop_eq_getElem_cons h, chCnt, if_pos hk]
theorem chCnt_out {a : Nat} {ns : List NodeD} {k : Nat} (h : k < ns.length) (hk : ns[k].kind ≠ 1) : chCnt a (ns.drop k) = chCnt (a + 1) (ns.drop (k + 1)) := by
  rw [List.drop_eq_getElem_cons h, chCnt, if_neg hk]
theorem chNs_in {t : Int} {by_ : List Int} {ns : List NodeD} {k : Nat} (h : k < ns.length) (hk : ns[k].kind = 1) : chNs t by_ (ns.drop k) = chNs t by_ (ns.drop (k + 1)) := by
  rw [List.drop_eq_getElem_cons h, chNs, if_pos hk]
theorem chNs_out {t : Int} {by_ : List Int} {ns : List NodeD} {k : Nat} (h : k < ns.length) (hk : ns[k].kind ≠ 1) : chNs t by_ (ns.drop k) = chN t by_ ns[k] :: chNs t by_ (ns.drop (k + 1)) := by
  rw [List.drop_eq_getElem_cons h, chNs, if_neg hk]
theorem take_set_snoc {xs : List Int} {k : Nat} (h : k < xs.length) (v : Int) : (xs.set k v).take (k + 1) = xs.take k ++ [v] := by
  rw [List.take_succ_eq_append_getElem (by rw [List.length_set]; exact h), List.getElem_set_self, List.take_set_of_le (Nat.le_refl k)]
/-! ### lists of lists are appended -/
section
theorem OwnIs.oneCell {B : Nat} {w : World} {L : List Value} {xss : List (List Int)} (h : OwnIs B w L xss) : ∀ u ∈ L, u.oneCell' = true := by
  intro u hu
  obtain ⟨i, hi, rfl⟩ := List.mem_iff_getElem.1 hu
  obtain ⟨hL, ho⟩ := h.at_ (i := i) (by rw [← h.1]; exact hi)
  exact ho.oneCell
theorem run_append_vals (w : World) (ty E T bytes : Nat) (z : Value) (hT : Try.prog.underlying T = some (.slice E)) (hinfo : (Try.prog.info? E).map (fun i => (i.zero, i.size, i.bytes)) = some (some z, 1, bytes)) (hz : z.cells.size = 1) (hby : bytes ≤ 64)
    {B : Nat} {v : Value} {L M : List Value} (hown : OwnV B w E v L) {b o c : Nat} (hr : ∀ i (h : i < M.length), w.cell? ⟨b, o + i, none⟩ = some M[i]) (h1 : ∀ u ∈ M, u.oneCell' = true) (hlen : L.length + M.length < 1099511627776) (hB : B ≤ w.heap.size) :
    ∃ v' w', (Builtin.append_ #[T, T] ty #[v, .slice (some ⟨b, o, none⟩) M.length c]).run Try.prog w = .ok v' w' ∧ OwnV B w' E v' (L ++ M) ∧ w.grownBy w' v.ownBlock := by
  obtain ⟨i0, hi, hz0, hz1, hz2⟩ := info_parts hinfo
  obtain ⟨v', w', e1, e2, e3, _⟩ := run_append_own (P := Try.prog) w B T ty E i0 z 1 bytes hT hi hz0 hz1 hz2 hz (by decide) v L.length L hown ⟨b, o, none⟩ M.length c M (by simp)
    (by
      intro j u hu
      obtain ⟨hj, rfl⟩ := List.getElem?_eq_some_iff.1 hu
      rw [Addr.add_lit]
      exact hr j hj)
    h1 (by simp only [maxLen]; omega)
    (by have : (L.length + M.length) * bytes ≤ 1099511627776 * 64 := Nat.mul_le_mul (by omega) hby
        omega) hB
  exact ⟨v', w', e1, by simpa [OwnV] using e2, e3⟩
theorem run_append_valsN (w : World) (ty E T : Nat) (bytes : Nat) (z : Value) (hT : Try.prog.underlying T = some (.slice E)) (hinfo : (Try.prog.info? E).map (fun i => (i.zero, i.size, i.bytes)) = some (some z, 1, bytes)) (hz : z.cells.size = 1) (hby : bytes ≤ 64)
    {B B' : Nat} {v u : Value} {L M : List Value} (hown : OwnV B w E v L) (hsrc : OwnV B' w E u M) (h1 : ∀ u ∈ M, u.oneCell' = true) (hlen : L.length + M.length < 1099511627776) (hB : B ≤ w.heap.size) :
    ∃ v' w', (Builtin.append_ #[T, T] ty #[v, u]).run Try.prog w = .ok v' w' ∧ OwnV B w' E v' (L ++ M) ∧ w.grownBy w' v.ownBlock := by
  rcases hsrc.cases with ⟨rfl, rfl⟩ | ⟨g, cap, rfl, -, -, -, hr⟩
  · obtain ⟨i0, hi, hz0, hz1, hz2⟩ := info_parts hinfo
    refine ⟨v, w, ?_, by simpa using hown, ⟨rfl, rfl, rfl, Nat.le_refl _, fun _ _ _ => rfl⟩⟩
    rcases hown.2 with ⟨rfl, h0⟩ | ⟨g, cap, cur, rfl, _, _, hnc, _⟩
    · simp [Builtin.append_, run_underlying hT, sizeOf, typeInfo, hi, Builtin.lenOf, Builtin.firstCells]
    · simp [Builtin.append_, run_underlying hT, sizeOf, typeInfo, hi, Builtin.lenOf, Builtin.firstCells, hnc, storeCells]
  · refine run_append_vals w ty E T bytes z hT hinfo hz hby hown (o := 0) (fun i hi => ?_) h1 hlen hB
    obtain ⟨b, o, e, -, hc⟩ := hr.pos hi
    simp only [Option.some.injEq, Addr.mk.injEq, and_true] at e
    obtain ⟨rfl, rfl⟩ := e
    exact hc i hi
theorem wpList_append_vals {ops : Array Oper} {rest : List Oper} {o : Oper} {a : Act} {Q : Exit → Act → World → Prop} {w : World} {E T : Nat} (hgd : o.guard = none) (s x : Operand)
    (ho : o.op = .call { callee := .builtin .append, args := #[s, x], argTypes := #[T, T] }) (bytes : Nat) (z : Value) (hT : Try.prog.underlying T = some (.slice E)) (hinfo : (Try.prog.info? E).map (fun i => (i.zero, i.size, i.bytes)) = some (some z, 1, bytes)) (hz : z.cells.size = 1) (hby : bytes ≤ 64)
    {B B' : Nat} {v u : Value} {L M : List Value} (hs : a.eval s = v) (hx : a.eval x = u) (hown : OwnV B w E v L) (hsrc : OwnV B' w E u M) (h1 : ∀ u ∈ M, u.oneCell' = true) (hlen : L.length + M.length < 1099511627776) (hB : B ≤ w.heap.size)
    (h : ∀ v' w', OwnV B w' E v' (L ++ M) → w.grownBy w' v.ownBlock → wpList Try.prog ops Q rest (a.put o.dst v') w') : wpList Try.prog ops Q (o :: rest) a w := by
  refine wpList_plain hgd fun K hK => ?_
  obtain ⟨v', w', e1, e2, e3⟩ := run_append_valsN w o.type E T bytes z hT hinfo hz hby hown hsrc h1 hlen hB
  unfold Oper.wp execOp
  simp only [ho, resolve, invoke, builtin, Sem.run_bind, Sem.run_pure, Result.andThen_ok, List.map_toArray, List.map_cons, List.map_nil, hs, hx, e1]
  exact hK _ _ (h v' w' e2 e3)
theorem step_append_vals {ops : Array Oper} {o : Oper} {a : Act} {K : Act → World → Prop} {Q : Exit → Act → World → Prop} {X : Prop} {w : World} {E T : Nat} (hgd : o.guard = none) (s x : Operand)
    (ho : o.op = .call { callee := .builtin .append, args := #[s, x], argTypes := #[T, T] }) (bytes : Nat) (z : Value) (hT : Try.prog.underlying T = some (.slice E)) (hinfo : (Try.prog.info? E).map (fun i => (i.zero, i.size, i.bytes)) = some (some z, 1, bytes)) (hz : z.cells.size = 1) (hby : bytes ≤ 64)
    {B B' : Nat} {v u : Value} {L M : List Value} (hs : a.eval s = v) (hx : a.eval x = u) (hown : OwnV B w E v L) (hsrc : OwnV B' w E u M) (h1 : ∀ u ∈ M, u.oneCell' = true) (hlen : L.length + M.length < 1099511627776) (hB : B ≤ w.heap.size)
    (h : ∀ v' w', OwnV B w' E v' (L ++ M) → w.grownBy w' v.ownBlock → K (a.put o.dst v') w') :
    if Region.wanted o (yielded ops a.tmps) = true then Oper.wp Try.prog o a w K Q else X := by
  have hw : Region.wanted o (yielded ops a.tmps) = true := by simp [Region.wanted, hgd]
  rw [if_pos hw]
  obtain ⟨v', w', e1, e2, e3⟩ := run_append_valsN w o.type E T bytes z hT hinfo hz hby hown hsrc h1 hlen hB
  unfold Oper.wp execOp
  simp only [ho, resolve, invoke, builtin, Sem.run_bind, Sem.run_pure, Result.andThen_ok, List.map_toArray, List.map_cons, List.map_nil, hs, hx, e1]
  exact h v' w' e2 e3
end
section
variable {B : Nat} {w0 w : World} {s : Nat} {inp : Int} {v1 v2 v3 : Value} {ts : List (List Int)} {ns : List NodeD} {os : List Int} {L1 L : List Value}
/-- more tables -/
theorem OwnP.tables {w' : World} {v1' : Value} {M : List Value} {ts' : List (List Int)} (h : OwnP B w v1 v2 v3 ts ns os L1 L) (hs : OwnIs B w M ts') (hd : Dis M) (hsep : ∀ b, Blk M b → ¬ Blk (L1 ++ (L ++ [v3])) b) (hv : OwnV B w' 24 v1' (L1 ++ M))
    (hk : ∀ k, k < w.heap.size → v1.ownBlock ≠ some k → w'.heap[k]? = w.heap[k]?) : OwnP B w' v1' v2 v3 (ts ++ ts') ns os (L1 ++ M) L := by
  have t1 := Typed.of h.o1
  refine ⟨hv, ?_, h.o2.keep fun k e => hk k (h.o2.lt e).2 fun e' => t1.ne (Typed.of h.o2.2) (by decide) e' e, h.s2.keep fun k hb => hk k (h.s2.blk hb).2.1 fun e => ?_, h.o3.keep fun k e => hk k (h.o3.lt e).2 fun e' => t1.ne (Typed.of h.o3) (by decide) e' e, ?_⟩
  · refine (h.s1.keep fun k hb => hk k (h.s1.blk hb).2.1 fun e => ?_).append (hs.keep fun k hb => hk k (hs.blk hb).2.1 fun e => ?_)
    · obtain ⟨v, hv, hb⟩ := hb
      exact t1.ne (h.s1.typed hv) (by decide) e hb
    · obtain ⟨v, hv, hb⟩ := hb
      exact t1.ne (hs.typed hv) (by decide) e hb
  · obtain ⟨v, hv, hb⟩ := hb
    exact t1.ne (h.s2.typed hv) (by decide) e hb
  · have hdd := h.dis
    rw [List.append_assoc]
    refine Dis.append hdd.left (Dis.append hd hdd.right fun b hb hb' => hsep b hb (blk_append.2 (.inr hb'))) fun b hb hb' => ?_
    rcases blk_append.1 hb' with h1 | h1
    · exact hsep b h1 (blk_append.2 (.inl hb))
    · exact hdd.sep b hb h1
theorem PB.tables {w' : World} {v1' : Value} {M : List Value} {ts' : List (List Int)} (h : PB B w0 w s inp v1 v2 v3 ts ns os L1 L) (hs : OwnIs B w M ts') (hd : Dis M) (hsep : ∀ b, Blk M b → ¬ Blk (L1 ++ (L ++ [v3])) b) (hv : OwnV B w' 24 v1' (L1 ++ M)) (hg : w.grownBy w' v1.ownBlock) :
    (w'.cell? ⟨s, 1, none⟩ = some v1 ∧ w'.frozen? ⟨s, 1, none⟩ = false) ∧ PB B w0 (w'.setCell ⟨s, 1, none⟩ v1') s inp v1' v2 v3 (ts ++ ts') ns os (L1 ++ M) L := by
  have hk : ∀ k, k < w.heap.size → v1.ownBlock ≠ some k → w'.heap[k]? = w.heap[k]? := fun k hk hne => hg.block k hk fun e => hne e.symm
  have o' := h.own.tables hs hd hsep hv hk
  have n1 := (h.own.neBox h.out patchT).1
  have out' := h.out.keep (hk _ h.out.lt n1)
  have bel' : Below w0.heap.size w0 w' := h.bel.grown hg h.bel.size fun k hk => by have := (h.own.o1.lt hk).1; have := h.hB; omega
  exact ⟨⟨out'.cell 1 rfl, out'.frozen 1⟩, o'.setBox out' patchT 1 _, by simpa using out'.set 1 v1', bel'.setCell (by simpa using h.hs) _, h.hB, h.hs⟩
end
end Go.Proofs.Ytalomhakmfknjaa
