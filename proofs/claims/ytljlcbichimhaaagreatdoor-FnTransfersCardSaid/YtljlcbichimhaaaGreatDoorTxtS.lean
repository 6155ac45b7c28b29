/-
  Lists of words that a call has made itself; words joined; numbers in decimal with blanks between them, on both sides.
-/
import Derived.Test.YtljlcbichimhaaaGreatDoorTxt
import Derived.Lib.ItoaLen
import Derived.Lib.Join
namespace Go.Proofs.YtljlcbichimhaaaGreatDoor
open Go.ChangeShapes Go.WideShapes Go.ChangeAt Go.RowKit Go.Sort
set_option linter.unusedVariables false

/-- a text as a value -/
def bs (l : List UInt8) : ByteArray := ⟨l.toArray⟩
theorem bs_list (l : List UInt8) : (bs l).data.toList = l := by simp [bs]
theorem bs_size (l : List UInt8) : (bs l).size = l.length := by simp [bs, ByteArray.size]
theorem bs_inj {l m : List UInt8} (h : bs l = bs m) : l = m := by rw [← bs_list l, h, bs_list]
theorem bs_app (l m : List UInt8) : bs l ++ bs m = bs (l ++ m) := by
  apply ByteArray.ext
  simp [bs]
theorem infoS : (Tryz.prog.info? 9).map (fun i => (i.zero, i.size, i.bytes)) = some (some (.string ByteArray.empty), 1, 16) := by kernel_rfl
theorem run_append_vals (w : World) (ty E T bytes : Nat) (z : Value) (hT : Tryz.prog.underlying T = some (.slice E)) (hinfo : (Tryz.prog.info? E).map (fun i => (i.zero, i.size, i.bytes)) = some (some z, 1, bytes)) (hz : z.cells.size = 1) (hby : bytes ≤ 64)
    {B : Nat} {v : Value} {us L : List Value} (hown : OwnV B w E v L) (h1 : ∀ u ∈ us, u.oneCell' = true) (hus : us.length ≤ 16) (hlen : L.length < 1099511627776) (hB : B ≤ w.heap.size) :
    ∃ v' w', (Builtin.append_ #[T, T] ty #[v, .slice (some ⟨w.heap.size, 0, none⟩) us.length us.length]).run Tryz.prog (w.alloc (.cells us.toArray E)) = .ok v' w' ∧ OwnV B w' E v' (L ++ us) ∧ (w.alloc (.cells us.toArray E)).grownBy w' v.ownBlock := by
  obtain ⟨i0, hi, hz0, hz1, hz2⟩ := info_parts hinfo
  obtain ⟨v', w', h2, h3, h4, _⟩ := run_append_own (P := Tryz.prog) (w.alloc (.cells us.toArray E)) B T ty E i0 z 1 bytes hT hi hz0 hz1 hz2 hz (by decide) v L.length L (hown.keep fun k hk => Below.heap_alloc _ _ _ (hown.lt hk).2) ⟨w.heap.size, 0, none⟩ us.length us.length us (by simp)
    (by
      intro j x hx
      rw [Addr.add_lit, World.cell?_alloc_at _ _ _ _ rfl]
      simpa using hx)
    h1 (by simp only [maxLen]; omega)
    (by have : (L.length + us.length) * bytes ≤ 1099511627792 * 64 := Nat.mul_le_mul (by omega) hby
        omega) (by simp; omega)
  exact ⟨v', w', h2, by simpa [OwnV] using h3, h4⟩

theorem wpList_append_vals {ops : Array Oper} {rest : List Oper} {o : Oper} {a : Act} {Q : Exit → Act → World → Prop} {w : World} (us : List Value) {E T : Nat} (hgd : o.guard = none) (s x : Operand)
    (ho : o.op = .call { callee := .builtin .append, args := #[s, x], argTypes := #[T, T] }) (bytes : Nat) (z : Value) (hT : Tryz.prog.underlying T = some (.slice E)) (hinfo : (Tryz.prog.info? E).map (fun i => (i.zero, i.size, i.bytes)) = some (some z, 1, bytes)) (hz : z.cells.size = 1) (hby : bytes ≤ 64)
    {B B0 : Nat} {w0 : World} {v : Value} {L : List Value} (hs : a.eval s = v) (hown : OwnV B w E v L) (hx : a.eval x = .slice (some ⟨w.heap.size, 0, none⟩) us.length us.length) (h1 : ∀ u ∈ us, u.oneCell' = true) (hus : us.length ≤ 16) (hbel : Below B0 w0 w) (hlen : L.length < 1099511627776) (hB : B ≤ w.heap.size) (hB0 : B0 ≤ B)
    (h : ∀ v' w', OwnV B w' E v' (L ++ us) → Below B0 w0 w' → w.heap.size ≤ w'.heap.size → (∀ k, k < w.heap.size → v.ownBlock ≠ some k → w'.heap[k]? = w.heap[k]?) → wpList Tryz.prog ops Q rest (a.put o.dst v') w') : wpList Tryz.prog ops Q (o :: rest) a (w.alloc (.cells us.toArray E)) := by
  refine wpList_plain hgd fun K hK => ?_
  obtain ⟨v', w', e1, e2, e3⟩ := run_append_vals w o.type E T bytes z hT hinfo hz hby hown h1 hus hlen hB
  unfold Oper.wp execOp
  simp only [ho, resolve, invoke, builtin, Sem.run_bind, Sem.run_pure, Result.andThen_ok, List.map_toArray, List.map_cons, List.map_nil, hs, hx, e1]
  refine hK _ _ (h v' w' e2 ((hbel.alloc (by omega) _).grown e3 (by simp; omega) fun k hk => ?_) ?_ fun k hk hne => ?_)
  · have := (hown.lt hk).1; omega
  · have := e3.size; simp at this; omega
  · exact (e3.block k (by simp; omega) (fun e => hne e.symm)).trans (Below.heap_alloc _ _ _ hk)

/-- words in a slice of the call's own -/
def OwnW (B : Nat) (w : World) (v : Value) (ss : List (List UInt8)) : Prop := OwnV B w 9 v (ss.map fun l => Value.string (bs l))
theorem OwnW.lit {B : Nat} (w : World) (ss : List (List UInt8)) (hB : B ≤ w.heap.size) (hm : ss.length ≤ maxLen) : OwnW B (w.alloc (.cells (ss.map fun l => Value.string (bs l)).toArray 9)) (.slice (some ⟨w.heap.size, 0, none⟩) ss.length ss.length) ss := by
  have h := World.ownsRow_lit (base := B) (e := 9) (size := 1) w (ss.map fun l => Value.string (bs l)).toArray ss.length hB hm (by simp)
  simpa [OwnW, OwnV] using h
theorem OwnW.below {B : Nat} {w w' : World} {v : Value} {ss : List (List UInt8)} (h : OwnW B w v ss) (hb : Below w.heap.size w w') : OwnW B w' v ss := OwnV.below h hb
theorem strs_one (ss : List (List UInt8)) : ∀ u ∈ (ss.map fun l => Value.string (bs l)), u.oneCell' = true := by
  intro u hu
  obtain ⟨l, -, rfl⟩ := List.mem_map.1 hu
  rfl
theorem OwnW.len {B : Nat} {w : World} {v : Value} {ss : List (List UInt8)} (h : OwnW B w v ss) : ss.length ≤ maxLen := by
  rcases OwnV.cases h with ⟨-, h0⟩ | ⟨_, _, _, _, _, _, hr⟩
  · have : ss = [] := by simpa using h0
    subst this; simp [maxLen]
  · simpa using hr.len
/-- words joined -/
theorem join_any {B : Nat} {v : Value} {ss : List (List UInt8)} (sep : List UInt8) (w : World) (h : OwnW B w v ss) (hn : ss.length ≤ 140737488355328) (hl : (Lib.join ss sep).length ≤ 140737488355328) :
    Calls Tryz.prog 63 #[v, .string (bs sep)] w fun e w' => e = .returned (.string (bs (Lib.join ss sep))) ∧ Below w.heap.size w w' := by
  have e1 : (ss.map fun l => (⟨l.toArray⟩ : ByteArray)).map (·.data.toList) = ss := by
    rw [List.map_map]
    conv => rhs; rw [← List.map_id ss]
    exact List.map_congr_left fun l _ => by simp
  rcases OwnV.cases h with ⟨rfl, h0⟩ | ⟨g, cap, rfl, hB, hg, _, hr⟩
  · have : ss = [] := by simpa using h0
    subst this
    refine (Tryz.strings_Join_none none 0 ⟨sep.toArray⟩ w).mono ?_
    rintro e w' ⟨rfl, rfl⟩
    exact ⟨rfl, Below.refl _ _⟩
  · have hcap : ss.length ≤ cap := by
      have := (show OwnV B w 9 _ _ from h)
      rcases this.2 with ⟨h1, h2⟩ | ⟨g', cap', cur, hv, _, _, hn, _⟩
      · simp at h1
      · simp only [Value.slice.injEq] at hv
        simp at hn
        omega
    have hj := Tryz.strings_Join g 0 cap (ss.map fun l => (⟨l.toArray⟩ : ByteArray)) ⟨sep.toArray⟩ w
      (fun j x hx => by
        simp only [List.getElem?_map, Option.map_eq_some_iff] at hx
        obtain ⟨l, hl, rfl⟩ := hx
        rcases hr.cells with h0 | ⟨b, o, e, hc⟩
        · have : ss = [] := by simpa using h0
          subst this; simp at hl
        · simp only [Option.some.injEq, Addr.mk.injEq, and_true] at e
          obtain ⟨rfl, rfl⟩ := e
          have hj : j < ss.length := (List.getElem?_eq_some_iff.1 hl).1
          rw [hc j (by simpa using hj)]
          simp [bs, (List.getElem?_eq_some_iff.1 hl).2])
      hg (by simpa using hn) (by simpa using hcap) (by rw [e1]; simpa using hl)
    rw [e1] at hj
    simpa [bs] using hj
/-- numbers in decimal with blanks between them -/
def numStr (xs : List Int) : List UInt8 := Lib.join (xs.map Lib.itoa) [32]
theorem lens_map_itoa : ∀ xs : List Int, AllI xs → Lib.lens (xs.map Lib.itoa) ≤ 21 * xs.length
  | [], _ => by simp [Lib.lens]
  | x :: xs, h => by
    have h1 := Lib.itoa_length_le x (h x (by simp)).1 (h x (by simp)).2
    have h2 := lens_map_itoa xs fun y hy => h y (by simp [hy])
    simp only [List.map_cons, Lib.lens, List.length_cons, List.sum_cons] at h2 ⊢
    omega
theorem numStr_length {xs : List Int} (h : AllI xs) : (numStr xs).length ≤ 22 * xs.length := by
  unfold numStr
  cases xs with
  | nil => simp [Lib.join_nil]
  | cons x xs =>
    rw [List.map_cons, Lib.join_length, ← List.map_cons]
    have := lens_map_itoa _ h
    simp only [List.length_map, List.length_cons, List.length_nil] at this ⊢
    omega
theorem numStr_snoc (xs : List Int) (x : Int) : numStr (xs ++ [x]) = if xs = [] then Lib.itoa x else numStr xs ++ 32 :: Lib.itoa x := by
  unfold numStr
  cases xs with
  | nil => simp [Lib.join_one]
  | cons y ys => simp [Lib.join_cons, Lib.joinTail]
set_option maxHeartbeats 2000000 in
set_option maxRecDepth 100000 in
theorem numbersText_any {p : Option Addr} {c : Nat} {xs : List Int} (w : World) (h : RdI w p xs) (hI : AllI xs) (hn : xs.length ≤ 1048576) (hT : TxtT w) :
    Calls Tryz.prog 39 #[.slice p xs.length c] w fun e w' => e = .returned (.string (bs (numStr xs))) ∧ Below w.heap.size w w' := by
  have hl := numStr_length hI
  have D : Hid (∀ W k, TxtT W → (hk : k < xs.length) → Calls Tryz.prog 62 #[.int .i64 xs[k]] W fun e w' => e = .returned (.string (bs (Lib.itoa xs[k]))) ∧ Below W.heap.size W w') := fun W k hW hk => decimal_any _ (hI _ (List.getElem_mem hk)).1 (hI _ (List.getElem_mem hk)).2 W hW
  have J : Hid (∀ (W : World) B v, OwnW B W v (xs.map Lib.itoa) → Calls Tryz.prog 63 #[v, .string ⟨#[32]⟩] W fun e w' => e = .returned (.string (bs (numStr xs))) ∧ Below W.heap.size W w') := fun W B v hv => join_any [32] W hv (by simp; omega) (by unfold numStr at hl; omega)
  have O0 : Hid (OwnW w.heap.size (w.alloc (.cells #[] 9)) (.slice (some ⟨w.heap.size, 0, none⟩) 0 0) []) := OwnW.lit w [] (Nat.le_refl _) (by simp [maxLen])
  have HT := Lib.hid hT
  have HR := Lib.hid h
  clear hl hI hT
  go_enter Tryz.func39, Tryz.ntmps39
  go_wp2_with fail
  go_loopw [3, 9] (fun v i wr => ∃ (k : Nat) (u : Value), k ≤ xs.length ∧ v = u ∧ i = .int .i64 (k : Int) ∧ Hid (OwnW w.heap.size wr u ((xs.take k).map Lib.itoa)) ∧ Below w.heap.size w wr) (fun _ i _ => ((xs.length : Int) - intOf i).toNat)
  case atStart => exact ⟨0, _, Nat.zero_le _, rfl, rfl, by simpa using O0, (Below.refl _ _).alloc (Nat.le_refl _) _⟩
  case round =>
    obtain ⟨k, v, hk, hv, rfl, HO, hbel⟩ := hrel
    obtain rfl := hv.symm
    have hsz := hbel.size
    by_cases hkt : k < xs.length
    · have hr : RdI wr p xs := HR.out.below hbel
      obtain ⟨b, o, rfl, hb, hc⟩ := hr.pos hkt
      have hck := hc k hkt
      have hT1 : TxtT wr := HT.out.below hbel
      have DK := Lib.hid (D.out wr k hT1 hkt)
      have HM : Hid ((xs.take (k + 1)).map Lib.itoa = (xs.take k).map Lib.itoa ++ [Lib.itoa xs[k]]) := by
        unfold Hid
        rw [List.take_succ_eq_append_getElem hkt, List.map_append]
        rfl
      generalize xs[k] = x at hck DK HM
      have hLl : ((((xs.take k).map Lib.itoa).map fun l => Value.string (bs l))).length < 1099511627776 := by simp; omega
      clear hc hr
      have HLl := Lib.hid hLl
      clear hLl
      go_wp2_with (first
        | (go_at_call 62; refine DK.out.mono ?_; rintro e w1 ⟨rfl, hB1⟩; have hown1 : OwnV _ _ _ _ _ := OwnW.below HO.out hB1; have hb1 : Below w.heap.size w w1 := hbel.trans (hB1.mono hsz); have hz1 := hb1.size)
        | (at_builtin; refine wpList_append_val rfl _ _ rfl 16 (.string ByteArray.empty) Tryz.underlying58 infoS rfl (by omega) rfl hown1 rfl rfl hb1 HLl.out hz1 (Nat.le_refl _) ?_; intro v' w2 ho2 hb2 hz2 hk2)
        | fail)
      have HO2 : Hid (OwnW w.heap.size w2 v' ((xs.take (k + 1)).map Lib.itoa)) := by
        unfold Hid OwnW
        rw [HM.out]
        simpa using ho2
      go_roundw
      case rel => exact ⟨k + 1, _, by omega, rfl, by go_num, HO2, hb2⟩
      case measure => simp [intOf] <;> omega
    · obtain rfl : k = xs.length := by omega
      have JK := Lib.hid (J.out wr _ v (by have := HO.out; rwa [List.take_length] at this))
      go_wp2_with (first | (go_at_call 63; refine JK.out.mono ?_; rintro e w1 ⟨rfl, hB1⟩) | fail)
      go_ret
      exact ⟨rfl, hbel.trans (hB1.mono hsz)⟩
end Go.Proofs.YtljlcbichimhaaaGreatDoor
