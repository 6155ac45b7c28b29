/-
  The reference's decimals: l01Dec writes the same numeral; l03Text writes numbers with blanks between them.
-/
import Derived.Test.YtljlcbichimhaaaGreatDoorTxtS
import Derived.Laws.BytesString
namespace Go.Proofs.YtljlcbichimhaaaGreatDoor
open Go.ChangeShapes Go.WideShapes Go.ChangeAt Go.RowKit Go.Sort
set_option linter.unusedVariables false

/-- append of a slice's values to a slice of the call's own -/
theorem wpList_append_srcV {ops : Array Oper} {rest : List Oper} {o : Oper} {a : Act} {Q : Exit → Act → World → Prop} {w : World} {E T : Nat} (hgd : o.guard = none) (s x : Operand)
    (ho : o.op = .call { callee := .builtin .append, args := #[s, x], argTypes := #[T, T] }) (bytes : Nat) (z : Value) (hT : Tryz.prog.underlying T = some (.slice E)) (hinfo : (Tryz.prog.info? E).map (fun i => (i.zero, i.size, i.bytes)) = some (some z, 1, bytes)) (hz : z.cells.size = 1) (hby : bytes ≤ 64)
    {B B0 : Nat} {w0 : World} {v : Value} {L us : List Value} {b o' c : Nat} (hs : a.eval s = v) (hown : OwnV B w E v L) (hx : a.eval x = .slice (some ⟨b, o', none⟩) us.length c) (hr : ∀ i, (h : i < us.length) → w.cell? ⟨b, o' + i, none⟩ = some us[i]) (h1 : ∀ u ∈ us, u.oneCell' = true) (hbel : Below B0 w0 w) (hlen : L.length + us.length < 1099511627776) (hB : B ≤ w.heap.size) (hB0 : B0 ≤ B)
    (h : ∀ v' w', OwnV B w' E v' (L ++ us) → Below B0 w0 w' → w.heap.size ≤ w'.heap.size → (∀ k, k < w.heap.size → v.ownBlock ≠ some k → w'.heap[k]? = w.heap[k]?) → wpList Tryz.prog ops Q rest (a.put o.dst v') w') : wpList Tryz.prog ops Q (o :: rest) a w := by
  refine wpList_plain hgd fun K hK => ?_
  obtain ⟨i0, hi, hz0, hz1, hz2⟩ := info_parts hinfo
  obtain ⟨v', w', e1, e2, e3, _⟩ := run_append_own (P := Tryz.prog) w B T o.type E i0 z 1 bytes hT hi hz0 hz1 hz2 hz (by decide) v L.length L hown ⟨b, o', none⟩ us.length c us (by simp)
    (by
      intro j u hu
      obtain ⟨hjl, hjy⟩ := List.getElem?_eq_some_iff.1 hu
      rw [Addr.add_lit, hr j hjl, hjy])
    h1 (by simp only [maxLen]; omega)
    (by have : (L.length + us.length) * bytes ≤ 1099511627776 * 64 := Nat.mul_le_mul (by omega) hby
        omega) hB
  unfold Oper.wp execOp
  simp only [ho, resolve, invoke, builtin, Sem.run_bind, Sem.run_pure, Result.andThen_ok, List.map_toArray, List.map_cons, List.map_nil, hs, hx, e1]
  refine hK _ _ (h v' w' (by simpa [OwnV] using e2) (hbel.grown e3 (by omega) fun k hk => ?_) e3.size fun k hk hne => ?_)
  · have := (hown.lt hk).1; omega
  · exact e3.block k hk (fun e => hne e.symm)
/-- bytes as values -/
def byteV (l : List UInt8) : List Value := l.map fun b => Value.int .u8 (b.toNat : Int)
theorem foldl_push : ∀ (l : List UInt8) (s : ByteArray), ((l.map fun b => (b.toNat : Int)).foldl (fun r n => r.push (UInt8.ofNat n.toNat)) s).data.toList = s.data.toList ++ l
  | [], s => by simp
  | b :: l, s => by
    rw [List.map_cons, List.foldl_cons, foldl_push l]
    simp
/-- a row of bytes, as a text -/
theorem conv_bytes {B : Nat} {w : World} {v : Value} {l : List UInt8} (h : OwnV B w 5 v (byteV l)) (hl : l ≠ []) :
    (convert 22 9 v).run Tryz.prog w = .ok (.string (bs l)) w := by
  rcases OwnV.cases h with ⟨rfl, h0⟩ | ⟨g, cap, rfl, hB, hg, ⟨cur, hcur⟩, hr⟩
  · exact absurd (by simpa [byteV] using h0) hl
  · rw [run_convert_bytes_string w _ _ 5 _ _ _ Tryz.underlying22 Tryz.underlying5 Tryz.underlying9, run_bytesToString w _ _ _ (l.map fun b => (b.toNat : Int))]
    · congr 2
      have := foldl_push l ByteArray.empty
      rw [show ByteArray.empty.data.toList = [] from rfl, List.nil_append] at this
      unfold bs
      apply ByteArray.ext
      exact Array.toList_inj.1 (by rw [this])
    · have e : (l.map fun b => (b.toNat : Int)).map (Value.int .u8) = byteV l := by simp [byteV]
      rw [e]
      refine run_loadCells_list w ⟨g, 0, none⟩ (byteV l) ?_
      · intro j v hv
        obtain ⟨hj, rfl⟩ := List.getElem?_eq_some_iff.1 hv
        rcases hr.cells with h0 | ⟨b, o, e1, hc⟩
        · rw [h0] at hj; simp at hj
        · simp only [Option.some.injEq, Addr.mk.injEq, and_true] at e1
          obtain ⟨rfl, rfl⟩ := e1
          rw [Addr.add_lit, hc j hj]
/-- a number's digits, without those of 0 -/
def full (n : Int) : List UInt8 := if n = 0 then [] else Lib.decDigits n.natAbs
theorem full_step {k : Int} (h : k ≠ 0) : full k = full (k.tdiv 10) ++ [UInt8.ofNat (48 + k.natAbs % 10)] := by
  have hq : (k.tdiv 10).natAbs = k.natAbs / 10 := Int.natAbs_tdiv k 10
  unfold full
  rw [if_neg h, Lib.decDigits]
  by_cases h10 : k.natAbs < 10
  · rw [dif_pos h10, if_pos (by omega), Nat.mod_eq_of_lt h10]
    rfl
  · rw [dif_neg h10, if_neg (by omega), hq]
theorem full_itoa (n : Int) : Lib.itoa n = if n = 0 then [48] else if n < 0 then 45 :: full n else full n := by
  unfold Lib.itoa full
  by_cases h : n = 0
  · subst h; rw [if_neg (by omega), if_pos rfl]; exact Lib.decDigits_one (by decide : 0 < 10)
  · rw [if_neg h, if_neg h]
    split
    · rfl
    · congr 1
      omega
theorem full_len {k : Int} (h : I64 k) : (full k).length ≤ 20 := by
  unfold full
  unfold I64 at h
  split
  · simp
  · rw [Lib.decDigits_length]
    exact Lib.nDigits_le20 _ (by omega)
end Go.Proofs.YtljlcbichimhaaaGreatDoor
