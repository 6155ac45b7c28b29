/-
  Decimal numerals of the program: what impl.Decimal and impl.ReadDecimal answer; the library's variables that they read.
-/
import Derived.Test.YtljlcbichimhaaaGreatDoorShelf
import Derived.Test.YtljlcbichimhaaaGreatDoorTxtM
import Derived.Test.YtljlcbichimhaaaGreatDoorOwn
import Derived.Test.YtljlcbichimhaaaGreatDoorScal
import Derived.Lib.SmallJoins
import Derived.Lib.LaidTab
namespace Go.Proofs.YtljlcbichimhaaaGreatDoor
open Go.ChangeShapes Go.WideShapes Go.ChangeAt Go.RowKit Go.Sort
set_option linter.unusedVariables false

theorem below_grow_t (B : Nat) (w : World) (q : Nat) (os : Array Obj) (hB : B ≤ w.heap.size) : Below B w (grow (w.drewN q) os) :=
  ⟨rfl, rfl, rfl, by first | (simp [grow]; done) | (simp [grow]; omega), fun i hi => by
    show ((w.drewN q).heap ++ os)[i]? = _
    rw [Array.getElem?_append_left (by show i < w.heap.size; omega)]
    rfl⟩
/-- the library's table of powers of ten stands in memory -/
def TxtT (w : World) : Prop := ∃ t f, w.heap[3]? = some (.cells (Lib.pow10Tab.map fun z => Value.int .u64 z).toArray t f)
theorem TxtT.below {w w' : World} (h : TxtT w) (hb : Below w.heap.size w w') : TxtT w' := by
  obtain ⟨t, f, h1⟩ := h
  exact ⟨t, f, (hb.block _ (Array.getElem?_eq_some_iff.1 h1).1).trans h1⟩
theorem TxtT.belowAt {w w' : World} {B : Nat} (h : TxtT w) (hlt : 3 < B) (hb : Below B w w') : TxtT w' := by
  obtain ⟨t, f, h1⟩ := h
  exact ⟨t, f, (hb.block _ hlt).trans h1⟩
theorem var?_of_block {P : Program} {w : World} {nm : String} {g : Nat} {cs : Array Value} {t : TypeId} {f : Nat × Nat} (hg : P.globalNamed nm = some g) (h : w.heap[g]? = some (.cells cs t f)) : w.var? P nm = some cs := by
  unfold World.var?
  rw [hg]
  simp [h]
theorem block_of_var? {P : Program} {w : World} {nm : String} {g : Nat} {cs : Array Value} (hg : P.globalNamed nm = some g) (h : w.var? P nm = some cs) : ∃ t f, w.heap[g]? = some (.cells cs t f) := by
  unfold World.var? at h
  rw [hg] at h
  simp only [Option.bind_some] at h
  split at h
  · rename_i cs' t f hh
    obtain rfl := Option.some.inj h
    exact ⟨t, f, hh⟩
  · cases h
theorem decimal_any (n : Int) (h0 : -9223372036854775808 ≤ n) (h1 : n ≤ 9223372036854775807) (w : World) (hT : TxtT w) :
    Calls Tryz.prog 62 #[.int .i64 n] w fun e w' => e = .returned (.string ⟨(Lib.itoa n).toArray⟩) ∧ Below w.heap.size w w' := by
  have F : Hid (Calls Tryz.prog 76 #[.int .i64 n, .int .i64 10] w fun e w' => e = .returned (.string ⟨(Lib.itoa n).toArray⟩) ∧ Below w.heap.size w w') := by
    obtain ⟨t, f, hb⟩ := hT
    refine (Any.strconv_FormatInt_10 Tryz.laysM173 n h0 h1 w (var?_of_block (by kernel_rfl) hb)).mono ?_
    rintro e w' ⟨rfl, k, os, rfl⟩
    exact ⟨rfl, below_grow_t _ _ _ _ (Nat.le_refl _)⟩
  go_enter Tryz.func62, Tryz.ntmps62
  go_wp2_with (go_at_call 76; refine F.out.mono ?_; rintro e w' ⟨rfl, hB⟩)
  go_ret
  exact ⟨rfl, hB⟩
/-- the library's two errors of parsing stand in memory -/
def TxtE (w : World) : Prop := (∃ tp p t f, w.heap[1]? = some (.cells #[.iface tp p] t f)) ∧ ∃ tp p t f, w.heap[2]? = some (.cells #[.iface tp p] t f)
theorem TxtE.below {w w' : World} (h : TxtE w) (hb : Below w.heap.size w w') : TxtE w' := by
  obtain ⟨⟨tp, p, t, f, h1⟩, tp', p', t', f', h2⟩ := h
  exact ⟨⟨tp, p, t, f, (hb.block _ (Array.getElem?_eq_some_iff.1 h1).1).trans h1⟩, tp', p', t', f', (hb.block _ (Array.getElem?_eq_some_iff.1 h2).1).trans h2⟩
theorem trimPrefix_minus (l : List UInt8) : Lib.trimPrefix l [45] = trimM l := by
  cases l with
  | nil => rfl
  | cons c r =>
    by_cases h : c = 45
    · subst h; simp [Lib.trimPrefix, Lib.hasPrefix, trimM]
    · have h' : ¬ (45 : UInt8) = c := fun e => h e.symm
      simp [Lib.trimPrefix, Lib.hasPrefix, trimM, h, h']
theorem str_eq_iff (l : List UInt8) (s : ByteArray) : (⟨l.toArray⟩ : ByteArray) = s ↔ l = s.data.toList := by
  constructor
  · rintro rfl; simp
  · rintro rfl; simp
/-- how ParseInt ends: a number and nil; 0 or another number, and an error -/
theorem parseInt_any (s : ByteArray) (hs : s.size ≤ 281474976710656) (w : World) (hE : TxtE w) :
    Calls Tryz.prog 74 #[.string s, .int .i64 10, .int .i64 64] w fun e w' => (match Lib.parseIntB 64 s.data.toList with
      | .ok v => e = .returned (.tuple #[.int .i64 v, .nilIface])
      | _ => ∃ v t p, e = .returned (.tuple #[.int .i64 v, .iface t p])) ∧ Below w.heap.size w w' := by
  obtain ⟨⟨tp, p, t, f, h1⟩, tp', p', t', f', h2⟩ := hE
  cases h : Lib.parseIntB 64 s.data.toList
  case ok v =>
    refine (Any.strconv_ParseInt_10_at64_ok Tryz.laysC174 s (by omega) v h w).mono ?_
    rintro e w' ⟨rfl, rfl | ⟨t, rfl⟩⟩
    · exact ⟨rfl, Below.refl _ _⟩
    · exact ⟨rfl, Go.Joins.below_bytesWorld _ _ _ _ (Nat.le_refl _)⟩
  case range =>
    refine (Any.strconv_ParseInt_10_at64_range_var Tryz.laysC174 s hs h tp' p' w (var?_of_block (by kernel_rfl) h2)).mono ?_
    rintro e w' ⟨N, rfl, -, -, hb⟩
    exact ⟨⟨_, _, _, rfl⟩, hb⟩
  case _ =>
    refine (Any.strconv_ParseInt_10_at64_syntax_var Tryz.laysC174 s hs h tp p w (var?_of_block (by kernel_rfl) h1)).mono ?_
    rintro e w' ⟨N, rfl, -, -, hb⟩
    exact ⟨⟨_, _, _, rfl⟩, hb⟩
def decV (l : List UInt8) : Value := .tuple #[.int .i64 ((readDec l).getD 0), .bool (readDec l).isSome]
theorem decV_some {l : List UInt8} {n : Int} (h : readDec l = some n) : decV l = .tuple #[.int .i64 n, .bool true] := by simp [decV, h]
theorem decV_none {l : List UInt8} (h : readDec l = none) : decV l = .tuple #[.int .i64 0, .bool false] := by simp [decV, h]
set_option maxHeartbeats 2000000 in
theorem readDecimal_any (s : ByteArray) (hs : s.size ≤ 281474976710656) (w : World) (hT : TxtT w) (hE : TxtE w) :
    Calls Tryz.prog 61 #[.string s] w fun e w' => e = .returned (decV s.data.toList) ∧ Below w.heap.size w w' := by
  have F := parseInt_any s hs w hE
  cases h : Lib.parseIntB 64 s.data.toList
  case range =>
    rw [decV_none (by simp [readDec, h])]
    rw [h] at F
    have F := Lib.hid F
    go_enter Tryz.func61, Tryz.ntmps61
    go_wp2_with (go_at_call 74; refine F.out.mono ?_; rintro e w' ⟨⟨v, t, p, rfl⟩, hB⟩)
    go_ret2
    exact ⟨rfl, hB⟩
  case ok v =>
    rw [h] at F
    have F := Lib.hid F
    have hb : -9223372036854775808 ≤ v ∧ v ≤ 9223372036854775807 := by
      have := Lib.parseIntB_bounds h
      have e : (2 : Nat) ^ (64 - 1) = 9223372036854775808 := by decide
      rw [e] at this
      omega
    have D : Hid (∀ W, TxtT W → Calls Tryz.prog 62 #[.int .i64 v] W fun e w' => e = .returned (.string ⟨(Lib.itoa v).toArray⟩) ∧ Below W.heap.size W w') := fun W hW => decimal_any v hb.1 hb.2 W hW
    clear hb
    by_cases hq : Lib.itoa v = s.data.toList
    · have hq' : (⟨(Lib.itoa v).toArray⟩ : ByteArray) = s := (str_eq_iff _ _).2 hq
      have P : Hid (∀ W, Calls Tryz.prog 75 #[.string s, .string ⟨#[45]⟩] W fun e w' => e = .returned (.string ⟨(trimM s.data.toList).toArray⟩) ∧ w' = W) := fun W => by
        have := Tryz.strings_TrimPrefix s ⟨#[45]⟩ W
        rwa [show (⟨#[45]⟩ : ByteArray).data.toList = [45] from rfl, trimPrefix_minus] at this
      rw [hq'] at D
      by_cases hl : (trimM s.data.toList).length ≤ 18
      · rw [decV_some (n := v) (by simp [readDec, h, hq, hl])]
        have hz : ((⟨(trimM s.data.toList).toArray⟩ : ByteArray).size : Int) ≤ 18 := by
          have : (⟨(trimM s.data.toList).toArray⟩ : ByteArray).size = (trimM s.data.toList).length := by simp [ByteArray.size]
          omega
        generalize (⟨(trimM s.data.toList).toArray⟩ : ByteArray) = T at *
        clear h hq hq' hl
        go_enter Tryz.func61, Tryz.ntmps61
        go_wp2_with (first | (go_at_call 74; refine F.out.mono ?_; rintro e w1 ⟨rfl, hB1⟩) | (go_at_call 62; refine (D.out _ (hT.below hB1)).mono ?_; rintro e w2 ⟨rfl, hB2⟩) | (go_at_call 75; refine (P.out _).mono ?_; rintro e w3 ⟨rfl, hw3⟩; rw [hw3]) | fail)
        go_ret2
        exact ⟨rfl, hB1.trans (hB2.mono hB1.size)⟩
      · rw [decV_none (by simp [readDec, h, hl])]
        have hz : ¬ ((⟨(trimM s.data.toList).toArray⟩ : ByteArray).size : Int) ≤ 18 := by
          have : (⟨(trimM s.data.toList).toArray⟩ : ByteArray).size = (trimM s.data.toList).length := by simp [ByteArray.size]
          omega
        generalize (⟨(trimM s.data.toList).toArray⟩ : ByteArray) = T at *
        clear h hq hq' hl
        go_enter Tryz.func61, Tryz.ntmps61
        go_wp2_with (first | (go_at_call 74; refine F.out.mono ?_; rintro e w1 ⟨rfl, hB1⟩) | (go_at_call 62; refine (D.out _ (hT.below hB1)).mono ?_; rintro e w2 ⟨rfl, hB2⟩) | (go_at_call 75; refine (P.out _).mono ?_; rintro e w3 ⟨rfl, hw3⟩; rw [hw3]) | fail)
        go_ret2
        exact ⟨rfl, hB1.trans (hB2.mono hB1.size)⟩
    · rw [decV_none (by simp [readDec, h, hq])]
      have hq' : (⟨(Lib.itoa v).toArray⟩ : ByteArray) ≠ s := fun e => hq ((str_eq_iff _ _).1 e)
      have hqb := str_beq_false hq'
      generalize (⟨(Lib.itoa v).toArray⟩ : ByteArray) = T at *
      clear h hq hq'
      go_enter Tryz.func61, Tryz.ntmps61
      go_wp2_with (first | (go_at_call 74; refine F.out.mono ?_; rintro e w1 ⟨rfl, hB1⟩) | (go_at_call 62; refine (D.out _ (hT.below hB1)).mono ?_; rintro e w2 ⟨rfl, hB2⟩) | fail)
      go_ret2
      exact ⟨rfl, hB1.trans (hB2.mono hB1.size)⟩
  case _ =>
    rw [decV_none (by simp [readDec, h])]
    rw [h] at F
    have F := Lib.hid F
    go_enter Tryz.func61, Tryz.ntmps61
    go_wp2_with (go_at_call 74; refine F.out.mono ?_; rintro e w' ⟨⟨v, t, p, rfl⟩, hB⟩)
    go_ret2
    exact ⟨rfl, hB⟩
end Go.Proofs.YtljlcbichimhaaaGreatDoor
