/-
  Several texts in one: TyPatch, PatM, OutA, OutI, Copy, Next, StepJ, StepI, PatSame, Pat, StepN, StepN2.
-/
import Derived.Test.YtaapkpjokmoekaaGreatDoorPk2
import Derived.Test.YtaapkpjokmoekaaGreatDoorPk1
import Derived.Deep.LoopGhost
import Derived.Deep.RegionLaw
import Derived.Lib.QuietBelow
import Derived.Deep.RegionWith
namespace Go.Proofs.YtaapkpjokmoekaaGreatDoor
open Go.ChangeShapes Go.WideShapes Go.ChangeAt Go.RowKit
set_option linter.unusedVariables false

structure PatchD where
  inputs : Int
  tables : List (List Int)
  nodes : List NodeD
  outputs : List Int

/-- the value v is a Patch that reads x -/
def VPatch (w : World) (v : Value) (x : PatchD) : Prop := ∃ p1 c1 p2 c2 p3 c3, v = .agg #[.int .i64 x.inputs, .slice p1 x.tables.length c1, .slice p2 x.nodes.length c2, .slice p3 x.outputs.length c3] ∧ RdII w p1 x.tables ∧ RdNodeS w p2 x.nodes ∧ RdI w p3 x.outputs
theorem VPatch.below {w w' : World} {v : Value} {x : PatchD} (h : VPatch w v x) (hb : Below w.heap.size w w') : VPatch w' v x := by
  obtain ⟨p1, c1, p2, c2, p3, c3, rfl, r1, r2, r3⟩ := h
  exact ⟨p1, c1, p2, c2, p3, c3, rfl, r1.below hb, r2.below hb, r3.below hb⟩
/-- a Patch of the call's own; L: its slices of integers -/
def OwnPatch (B : Nat) (w : World) (v : Value) (x : PatchD) (L : List Value) : Prop := ∃ u1 u2 u3 L1 L2 L3, v = .agg #[.int .i64 x.inputs, u1, u2, u3] ∧ L1 ++ L2 ++ L3 = L ∧ OwnII B w u1 x.tables L1 ∧ OwnNodeS B w u2 x.nodes L2 ∧ OwnLI B w u3 x.outputs L3
theorem OwnPatch.rd {B : Nat} {w : World} {v : Value} {x : PatchD} {L : List Value} (h : OwnPatch B w v x L) : VPatch w v x := by
  obtain ⟨u1, u2, u3, L1, L2, L3, rfl, rfl, o1, o2, o3⟩ := h
  obtain ⟨p1, c1, rfl, r1⟩ := OwnII.rdv o1
  obtain ⟨p2, c2, rfl, r2⟩ := OwnNodeS.rd o2
  obtain ⟨p3, c3, rfl, r3⟩ := OwnLI.rd o3
  exact ⟨p1, c1, p2, c2, p3, c3, rfl, r1, r2, r3⟩
theorem OwnPatch.mono {B B' : Nat} {w : World} {v : Value} {x : PatchD} {L : List Value} (h : OwnPatch B w v x L) (hB : B' ≤ B) : OwnPatch B' w v x L := by
  obtain ⟨u1, u2, u3, L1, L2, L3, rfl, rfl, o1, o2, o3⟩ := h
  exact ⟨u1, u2, u3, L1, L2, L3, rfl, rfl, o1.mono hB, o2.mono hB, o3.mono hB⟩
theorem OwnPatch.keeps {B : Nat} {w w' : World} {v : Value} {x : PatchD} {L : List Value} (h : OwnPatch B w v x L) (hk : ∀ k, B ≤ k → k < w.heap.size → w'.heap[k]? = w.heap[k]?) : OwnPatch B w' v x L := by
  obtain ⟨u1, u2, u3, L1, L2, L3, rfl, rfl, o1, o2, o3⟩ := h
  exact ⟨u1, u2, u3, L1, L2, L3, rfl, rfl, o1.keeps hk, o2.keeps hk, o3.keeps hk⟩
theorem OwnPatch.below {B : Nat} {w w' : World} {v : Value} {x : PatchD} {L : List Value} (h : OwnPatch B w v x L) (hb : Below w.heap.size w w') : OwnPatch B w' v x L := h.keeps fun k _ hk => hb.block k hk
theorem OwnPatch.blk {B : Nat} {w : World} {v : Value} {x : PatchD} {L : List Value} (h : OwnPatch B w v x L) {b : Nat} (hb : Blk L b) : B ≤ b ∧ b < w.heap.size := by
  obtain ⟨u1, u2, u3, L1, L2, L3, rfl, rfl, o1, o2, o3⟩ := h
  obtain ⟨u, hu, hb⟩ := hb
  simp only [List.mem_append] at hu
  rcases hu with (hu | hu) | hu
  · exact o1.blk ⟨u, hu, hb⟩
  · exact o2.blk ⟨u, hu, hb⟩
  · exact o3.blk ⟨u, hu, hb⟩
def wtPatch (x : PatchD) : Nat := wtII x.tables + wtNodeS x.nodes + wtI x.outputs
def cntPatch (x : PatchD) : Nat := cntII x.tables + cntNodeS x.nodes + cntI x.outputs
theorem cntPatch_le (x : PatchD) : cntPatch x ≤ 6 * wtPatch x := by
  have e1 := cntII_le x.tables
  have e2 := cntNodeS_le x.nodes
  have e3 := cntI_le x.outputs
  unfold cntPatch wtPatch; omega
def markPatch (m : Int) (x : PatchD) : PatchD := { x with tables := markII (m) x.tables, nodes := markNodeS (m + cntII x.tables) x.nodes, outputs := markI (m + cntII x.tables + cntNodeS x.nodes) x.outputs }
end Go.Proofs.YtaapkpjokmoekaaGreatDoor

namespace Go.Proofs.YtaapkpjokmoekaaGreatDoor
set_option linter.unusedVariables false

def tblB (t : List Int) : Bool := (decide (t.length = 2) || (decide (t.length = 4) || (decide (t.length = 8) || decide (t.length = 16)))) && t.all isSmp
def tablesB (ts : List (List Int)) : Bool := ts.all tblB && decide (ts.length ≤ 4)
/-- the nodes that a node waits for -/
def waits (x : NodeD) : List Int := if x.kind = 6 then [] else x.src
/-- a node of a well formed patch: m inputs, t tables, n nodes -/
def ndB (m t n : Int) (x : NodeD) : Bool := nodeB x t && !(x.kind == 1 && decide (m ≤ x.a)) && x.src.all (fun f => inB f 0 (n - 1))
def formedB (x : PatchD) : Bool :=
  inB x.inputs 0 4 && tablesB x.tables && decide (x.nodes.length ≤ 24) && decide (x.outputs.length ≤ 4) && x.nodes.all (ndB x.inputs x.tables.length x.nodes.length) && x.outputs.all (fun f => inB f 0 (x.nodes.length - 1))
theorem formed_iff {x : PatchD} : formedB x = true ↔ (0 ≤ x.inputs ∧ x.inputs ≤ 4) ∧ tablesB x.tables = true ∧ x.nodes.length ≤ 24 ∧ x.outputs.length ≤ 4 ∧ (∀ y ∈ x.nodes, ndB x.inputs x.tables.length x.nodes.length y = true) ∧ ∀ f ∈ x.outputs, 0 ≤ f ∧ f < x.nodes.length := by
  simp only [formedB, Bool.and_eq_true, inB_iff, decide_eq_true_iff, List.all_eq_true]
  constructor
  · rintro ⟨⟨⟨⟨⟨a, b⟩, c⟩, d⟩, e⟩, f⟩
    exact ⟨a, b, c, d, e, fun y hy => by have := f y hy; omega⟩
  · rintro ⟨a, b, c, d, e, f⟩
    exact ⟨⟨⟨⟨⟨a, b⟩, c⟩, d⟩, e⟩, fun y hy => by have := f y hy; omega⟩
theorem ndB_src {m t n : Int} {x : NodeD} (h : ndB m t n x = true) : ∀ f ∈ x.src, 0 ≤ f ∧ f < n := by
  unfold ndB at h
  simp only [Bool.and_eq_true, List.all_eq_true, inB_iff] at h
  intro f hf
  have := h.2 f hf
  omega
theorem waits_src {x : NodeD} {f : Int} (h : f ∈ waits x) : f ∈ x.src := by
  unfold waits at h
  split at h
  · simp at h
  · exact h
/-- node i can be taken after those of out -/
def rdy (nodes : List NodeD) (out : List Int) (i : Nat) : Bool := !(out.contains (i : Int)) && (waits (nodes.getD i ⟨0, 0, 0, []⟩)).all (fun f => out.contains f)
/-- the first node from k on that can be taken; m places are looked at -/
def nxt (nodes : List NodeD) (out : List Int) (k : Nat) : Nat → Option Nat
  | 0 => none
  | m + 1 => if rdy nodes out k then some k else nxt nodes out (k + 1) m
theorem nxt_some {nodes : List NodeD} {out : List Int} {i : Nat} : ∀ {m k : Nat}, nxt nodes out k m = some i → k ≤ i ∧ i < k + m ∧ rdy nodes out i = true
  | 0, _, h => by simp [nxt] at h
  | m + 1, k, h => by
    unfold nxt at h
    split at h
    · simp only [Option.some.injEq] at h
      subst h
      exact ⟨Nat.le_refl _, by omega, by assumption⟩
    · have := nxt_some h
      exact ⟨by omega, by omega, this.2.2⟩
def ord (nodes : List NodeD) : Nat → List Int → List Int
  | 0, out => out
  | f + 1, out => match nxt nodes out 0 nodes.length with
    | none => out
    | some i => ord nodes f (out ++ [(i : Int)])
def orderL (nodes : List NodeD) : List Int := ord nodes nodes.length []
theorem ord_none {nodes : List NodeD} {out : List Int} (h : nxt nodes out 0 nodes.length = none) : ∀ f, ord nodes f out = out
  | 0 => rfl
  | f + 1 => by rw [ord, h]
theorem ord_some {nodes : List NodeD} {out : List Int} {i : Nat} (h : nxt nodes out 0 nodes.length = some i) (f : Nat) : ord nodes (f + 1) out = ord nodes f (out ++ [(i : Int)]) := by
  rw [ord, h]
/-- how many places are not in out -/
def free (out : List Int) : Nat → Nat
  | 0 => 0
  | n + 1 => free out n + (if out.contains (n : Int) then 0 else 1)
theorem contains_snoc (out : List Int) (i j : Int) : (out ++ [i]).contains j = (out.contains j || j == i) := by
  rw [Bool.eq_iff_iff]; simp
theorem free_ge (out : List Int) (i : Nat) : ∀ n, n ≤ i → free (out ++ [(i : Int)]) n = free out n
  | 0, _ => rfl
  | n + 1, h => by
    have e : ((n : Int) == (i : Int)) = false := by rw [beq_eq_false_iff_ne]; omega
    rw [free, free, free_ge out i n (by omega), contains_snoc, e, Bool.or_false]
theorem free_add (out : List Int) (i : Nat) (hi : out.contains (i : Int) = false) : ∀ n, i < n → free (out ++ [(i : Int)]) n + 1 = free out n
  | 0, h => by omega
  | n + 1, h => by
    rw [free, free, contains_snoc]
    by_cases e : i = n
    · subst e
      rw [free_ge out i i (Nat.le_refl _), hi]
      simp
    · have e2 : ((n : Int) == (i : Int)) = false := by rw [beq_eq_false_iff_ne]; omega
      have := free_add out i hi n (by omega)
      rw [e2, Bool.or_false]; omega
theorem free_nil : ∀ n, free [] n = n
  | 0 => rfl
  | n + 1 => by rw [free, free_nil n]; simp
theorem rdy_free {nodes : List NodeD} {out : List Int} {i : Nat} (h : rdy nodes out i = true) : out.contains (i : Int) = false := by
  unfold rdy at h
  rw [Bool.and_eq_true, Bool.not_eq_true'] at h
  exact h.1
theorem free_pos {out : List Int} {i : Nat} (hi : out.contains (i : Int) = false) {n : Nat} (h : i < n) : 0 < free out n := by
  have := free_add out i hi n h; omega
/-- what is taken, as marks -/
def tk (out : List Int) (n : Nat) : List Bool := (List.range n).map fun i => out.contains ((i : Nat) : Int)
theorem tk_length (out : List Int) (n : Nat) : (tk out n).length = n := by simp [tk]
theorem tk_get (out : List Int) {n i : Nat} (h : i < n) : (tk out n)[i]'(by rw [tk_length]; exact h) = out.contains (i : Int) := by simp [tk]
theorem tk_nil (n : Nat) : tk [] n = List.replicate n false := by
  refine List.ext_getElem (by simp [tk]) fun i h1 h2 => ?_
  simp [tk]
theorem tk_set (out : List Int) {n i : Nat} (h : i < n) : tk (out ++ [(i : Int)]) n = (tk out n).set i true := by
  refine List.ext_getElem (by simp [tk]) fun j h1 h2 => ?_
  have hj : j < n := by simpa [tk] using h1
  rw [List.getElem_set, tk_get _ hj, tk_get _ hj, contains_snoc]
  by_cases e : i = j
  · subst e; simp
  · rw [if_neg e]
    have e2 : ((j : Int) == (i : Int)) = false := by rw [beq_eq_false_iff_ne]; omega
    rw [e2, Bool.or_false]
/-- places of an order lie in the patch -/
theorem ord_mem {nodes : List NodeD} : ∀ (f : Nat) (out : List Int), (∀ o ∈ out, 0 ≤ o ∧ o < (nodes.length : Int)) → ∀ o ∈ ord nodes f out, 0 ≤ o ∧ o < (nodes.length : Int)
  | 0, out, h => h
  | f + 1, out, h => by
    rw [ord]
    split
    · exact h
    · rename_i i hi
      refine ord_mem f _ fun o ho => ?_
      rcases List.mem_append.1 ho with ho | ho
      · exact h o ho
      · have := (nxt_some hi).2.1
        rw [List.mem_singleton.1 ho]; omega
theorem orderL_mem {nodes : List NodeD} : ∀ o ∈ orderL nodes, 0 ≤ o ∧ o < (nodes.length : Int) := ord_mem _ _ (by simp)
theorem ord_len {nodes : List NodeD} : ∀ (f : Nat) (out : List Int), (ord nodes f out).length ≤ out.length + f
  | 0, out => Nat.le_refl _
  | f + 1, out => by
    rw [ord]
    split
    · omega
    · rename_i i hi
      have := ord_len (nodes := nodes) f (out ++ [(i : Int)])
      rw [List.length_append] at this
      simp only [List.length_cons, List.length_nil] at this
      omega
theorem orderL_len (nodes : List NodeD) : (orderL nodes).length ≤ nodes.length := by
  have := ord_len (nodes := nodes) nodes.length []
  simpa [orderL] using this
/-- the patch is valid -/
def okB (x : PatchD) : Bool := formedB x && decide ((orderL x.nodes).length = x.nodes.length)
/-! ### depths -/
def dset (d : List Int) (o : Nat) (f : Int) : List Int := d.set o (max (d.getD o 0) (d.getD f.toNat 0 + 1))
def dall (d : List Int) (o : Nat) (fs : List Int) : List Int := fs.foldl (fun d f => dset d o f) d
def depths (nodes : List NodeD) (d : List Int) : List Int → List Int
  | [] => d
  | o :: os => depths nodes (dall d o.toNat (waits (nodes.getD o.toNat ⟨0, 0, 0, []⟩))) os
/-! ### users -/
def users (nodes : List NodeD) (node : Int) : List Int := ((List.range nodes.length).filter fun i => (nodes.getD i ⟨0, 0, 0, []⟩).src.contains node).map fun i => ((i : Nat) : Int)
end Go.Proofs.YtaapkpjokmoekaaGreatDoor

namespace Go.Proofs.YtaapkpjokmoekaaGreatDoor
open Go.ChangeShapes Go.WideShapes Go.ChangeAt Go.RowKit Go.Sort
set_option linter.unusedVariables false

/-- the sample of a table that x chooses -/
def lookP (t : List Int) (x : Int) : Int := t.getD (((t.length : Int) * (x % 4294967296)) / 4294967296).toNat 0
def outK (k : Nat) (A : Int) (tb : List (List Int)) (xs ss : List Int) : Int :=
  match k with
  | 1 => xs.getD 0 0
  | 2 => A
  | 3 => smp (xs.getD 0 0 + xs.getD 1 0)
  | 4 => smp (xs.getD 0 0 - xs.getD 1 0)
  | 5 => smp (A * xs.getD 0 0)
  | 6 => ss.getD 0 0
  | 7 => smp (ss.getD 0 0 + xs.getD 0 0)
  | 8 => smp (xs.getD 0 0 - ss.getD 0 0)
  | 9 => smp (xs.getD 0 0 * xs.getD 1 0)
  | 10 => xs.getD 0 0 / 2 ^ A.toNat
  | 11 => max (-A) (min (xs.getD 0 0) A)
  | 12 => ss.getD 0 0
  | 13 => lookP (tb.getD A.toNat []) (xs.getD 0 0)
  | 14 => ss.getD 0 0
  | 15 => if 0 ≤ xs.getD 0 0 then xs.getD 1 0 else xs.getD 2 0
  | 16 => if 0 < xs.getD 1 0 then xs.getD 0 0 else ss.getD 0 0
  | _ => smp (xs.getD 0 0 + smp (A * ss.getD 0 0))
/-- the output of a node -/
def outP (x : NodeD) (tb : List (List Int)) (xs ss : List Int) : Int := outK x.kind.toNat x.a tb xs ss
def nextK (k : Nat) (xs ss : List Int) (y : Int) : List Int :=
  match k with
  | 6 => ss.drop 1 ++ [xs.getD 0 0]
  | 17 => ss.drop 1 ++ [y]
  | 7 => [y]
  | 16 => [y]
  | 8 => [xs.getD 0 0]
  | 12 => [smp (ss.getD 0 0 + xs.getD 0 0)]
  | 14 => [noiseP (ss.getD 0 0)]
  | _ => []
/-- the next state of a node with the output y -/
def nextP (x : NodeD) (xs ss : List Int) (y : Int) : List Int := nextK x.kind.toNat xs ss y
/-- so many samples a node gets -/
def inN (x : NodeD) : Int := if x.kind = 1 then 1 else kAr (x.kind - 1).toNat
/-- what the output asks of its arguments -/
structure OutOk (x : NodeD) (tb : List (List Int)) (xs ss : List Int) : Prop where
  k : inB x.kind 1 17 = true
  n : (xs.length : Int) = inN x
  s : x.kind = 6 ∨ x.kind = 7 ∨ x.kind = 8 ∨ x.kind = 12 ∨ x.kind = 14 ∨ x.kind = 16 ∨ x.kind = 17 → 1 ≤ ss.length
  smps : ∀ y ∈ xs, -2147483648 ≤ y ∧ y ≤ 2147483647
  clip : x.kind = 11 → 0 ≤ x.a ∧ x.a ≤ 2147483647
  shift : x.kind = 10 → 0 ≤ x.a ∧ x.a ≤ 31
  tab : x.kind = 13 → 0 ≤ x.a ∧ x.a < (tb.length : Int) ∧ ∀ t ∈ tb, 1 ≤ t.length ∧ t.length ≤ 16
theorem RdI.at0 {w : World} {p : Option Addr} {xs : List Int} (h : RdI w p xs) (h1 : 1 ≤ xs.length) : ∃ b o, p = some ⟨b, o, none⟩ ∧ b < w.heap.size ∧ ∀ i, i < xs.length → w.cell? ⟨b, o + i, none⟩ = some (.int .i64 (xs.getD i 0)) := by
  obtain ⟨b, o, e, hb, hc⟩ := h.pos (k := 0) (by omega)
  refine ⟨b, o, e, hb, fun i hi => ?_⟩
  rw [hc i hi, List.getD_eq_getElem?_getD, List.getElem?_eq_getElem hi]
  rfl
theorem getD_mem {xs : List Int} {i : Nat} (h : i < xs.length) : xs.getD i 0 ∈ xs := by
  rw [List.getD_eq_getElem?_getD, List.getElem?_eq_getElem h]
  exact List.getElem_mem h
theorem RdII.at0 {w : World} {p : Option Addr} {xss : List (List Int)} (h : RdII w p xss) {k : Nat} (hk : k < xss.length) : ∃ b o q c, p = some ⟨b, o, none⟩ ∧ b < w.heap.size ∧ w.cell? ⟨b, o + k, none⟩ = some (.slice q (xss.getD k []).length c) ∧ RdI w q (xss.getD k []) := by
  obtain ⟨b, o, e, hb, hc⟩ := h.pos hk
  obtain ⟨q, c, h1, h2⟩ := hc k hk
  have e2 : xss.getD k [] = xss[k] := by rw [List.getD_eq_getElem?_getD, List.getElem?_eq_getElem hk]; rfl
  rw [← e2] at h1 h2
  exact ⟨b, o, q, c, e, hb, h1, h2⟩
/-- the place in a table -/
def lookI (n : Nat) (x : Int) : Int := ((n : Int) * (x % 4294967296)) / 4294967296
theorem lookI_in {n : Nat} {x : Int} (h : 1 ≤ n) : 0 ≤ lookI n x ∧ lookI n x < n := by
  have h1 : 0 ≤ x % 4294967296 := Int.emod_nonneg _ (by decide)
  have h2 : x % 4294967296 < 4294967296 := Int.emod_lt_of_pos _ (by decide)
  have h3 : 0 ≤ (n : Int) * (x % 4294967296) := Int.mul_nonneg (by omega) h1
  have h4 : (n : Int) * (x % 4294967296) < (n : Int) * 4294967296 := Int.mul_lt_mul_of_pos_left h2 (by omega)
  unfold lookI
  generalize (n : Int) * (x % 4294967296) = m at *
  omega
theorem l06Look_any {p : Option Addr} {c : Nat} {t : List Int} (x : Int) (w : World) (h : RdI w p t) (h1 : 1 ≤ t.length) (h2 : t.length ≤ 16) :
    Calls Tryz.prog 134 #[.slice p t.length c, .int .i64 x] w fun e w' => e = .returned (.int .i64 (lookP t x)) ∧ w = w' := by
  obtain ⟨b, o, rfl, hb, hc⟩ := h.at0 h1
  have hi := lookI_in (x := x) h1
  have hr : 0 ≤ x % 4294967296 ∧ x % 4294967296 ≤ 4294967295 := by omega
  have ha := bits_and32 x
  obtain ⟨j, hj⟩ := Int.eq_ofNat_of_zero_le hi.1
  have hz := hc j (by omega)
  have HL : Hid (lookP t x = t.getD j 0) := by
    unfold Hid lookP
    rw [show ((t.length : Int) * (x % 4294967296)) / 4294967296 = lookI t.length x from rfl, hj]; rfl
  generalize lookP t x = R at HL ⊢
  have HJ : Hid (((t.length : Int) * (x % 4294967296)) / 4294967296 = (j : Int)) := hj
  have hj2 : j < t.length := by omega
  have hp : 0 ≤ (t.length : Int) * (x % 4294967296) ∧ (t.length : Int) * (x % 4294967296) ≤ 68719476720 := by
    refine ⟨Int.mul_nonneg (by omega) hr.1, ?_⟩
    have := Int.mul_le_mul (show (t.length : Int) ≤ 16 by omega) hr.2 hr.1 (by omega)
    omega
  generalize t.getD j 0 = y at hz HL
  generalize t.length = n at *
  clear hc hi hj h
  generalize x % 4294967296 = u at *
  have hw : IntKind.i64.wrap ((n : Int) * u) = (n : Int) * u := IntWalk.i64_in _ (by omega)
  generalize hm : (n : Int) * u = m at *
  have hw2 : m / 4294967296 = (j : Int) := HJ.out
  clear HJ
  go_enter Tryz.func134, Tryz.ntmps134
  go_wp2_with fail
  go_ret
  obtain rfl := HL.out
  exact ⟨rfl, rfl⟩
set_option maxHeartbeats 4000000 in
theorem l06Out_13 {b o : Nat} {vs : Value} {ba oa na ca bt ot nt ct j : Nat} {q : Option Addr} {c : Nat} {t : List Int} {x0 : Int} (w : World) (c0 : w.cell? ⟨b, o, none⟩ = some (.int .i64 13)) (c1 : w.cell? ⟨b, o + 1, none⟩ = some (.int .i64 (j : Int)))
    (hx0 : w.cell? ⟨ba, oa, none⟩ = some (.int .i64 x0)) (la : 1 ≤ na) (hj : j < nt) (ht : w.cell? ⟨bt, ot + j, none⟩ = some (.slice q t.length c)) (hr : RdI w q t) (h1 : 1 ≤ t.length) (h2 : t.length ≤ 16) :
    Calls Tryz.prog 114 #[.pointer (some ⟨b, o, none⟩), .slice (some ⟨bt, ot, none⟩) nt ct, .slice (some ⟨ba, oa, none⟩) na ca, vs] w fun e w' => e = .returned (.int .i64 (lookP t x0)) ∧ Below w.heap.size w w' := by
  have LK : Hid (∀ W, Below w.heap.size w W → Calls Tryz.prog 134 #[.slice q t.length c, .int .i64 x0] W fun e w' => e = .returned (.int .i64 (lookP t x0)) ∧ W = w') := fun W hW => l06Look_any x0 W (hr.below hW) h1 h2
  clear hr
  go_enter Tryz.func114, Tryz.ntmps114
  go_wp2_with fail
  go_quiet ((go_at_call 134; exact Calls.quiet_of_same (Calls.turn (LK.out _ (below_drewN (Below.refl _ _) _)))))
  go_wp2_with fail
  go_ret
  exact ⟨rfl, below_drewN (Below.refl _ _) _⟩
theorem l06Out_any {b o : Nat} {x : NodeD} {tb : List (List Int)} {xs ss : List Int} {pt px ps : Option Addr} {ct cx cs : Nat} (w : World) (h : PNode w b o x) (ht : RdII w pt tb) (hx : RdI w px xs) (hs : RdI w ps ss) (ok : OutOk x tb xs ss) :
    Calls Tryz.prog 114 #[.pointer (some ⟨b, o, none⟩), .slice pt tb.length ct, .slice px xs.length cx, .slice ps ss.length cs] w fun e w' => e = .returned (.int .i64 (outP x tb xs ss)) ∧ Below w.heap.size w w' := by
  obtain ⟨k, A, B, src⟩ := x
  obtain ⟨c0, c1, -, -⟩ := h
  obtain ⟨hk, hn, hst, hsm, hcl, hsh, htb⟩ := ok
  unfold outP
  simp only at *
  rcases kinds_of hk with rfl | rfl | rfl | rfl | rfl | rfl | rfl | rfl | rfl | rfl | rfl | rfl | rfl | rfl | rfl | rfl | rfl
  · have l : xs.length = 1 := by have : inN ⟨1, A, B, src⟩ = 1 := rfl; omega
    obtain ⟨ba, oa, rfl, -, ha⟩ := hx.at0 (by omega)
    exact l06Out_1 w c0 (ha 0 (by omega)) (by omega)
  · exact l06Out_2 w c0 c1
  · have l : xs.length = 2 := by have : inN ⟨3, A, B, src⟩ = 2 := rfl; omega
    obtain ⟨ba, oa, rfl, -, ha⟩ := hx.at0 (by omega)
    exact l06Out_3 w c0 (ha 0 (by omega)) (ha 1 (by omega)) (by omega)
  · have l : xs.length = 2 := by have : inN ⟨4, A, B, src⟩ = 2 := rfl; omega
    obtain ⟨ba, oa, rfl, -, ha⟩ := hx.at0 (by omega)
    exact l06Out_4 w c0 (ha 0 (by omega)) (ha 1 (by omega)) (by omega)
  · have l : xs.length = 1 := by have : inN ⟨5, A, B, src⟩ = 1 := rfl; omega
    obtain ⟨ba, oa, rfl, -, ha⟩ := hx.at0 (by omega)
    exact l06Out_5 w c0 c1 (ha 0 (by omega)) (by omega)
  · have l2 := hst (by simp)
    obtain ⟨bs, os, rfl, -, h2⟩ := hs.at0 l2
    exact l06Out_6 w c0 (h2 0 (by omega)) (by omega)
  · have l : xs.length = 1 := by have : inN ⟨7, A, B, src⟩ = 1 := rfl; omega
    obtain ⟨ba, oa, rfl, -, ha⟩ := hx.at0 (by omega)
    have l2 := hst (by simp)
    obtain ⟨bs, os, rfl, -, h2⟩ := hs.at0 l2
    exact l06Out_7 w c0 (ha 0 (by omega)) (h2 0 (by omega)) (by omega) (by omega)
  · have l : xs.length = 1 := by have : inN ⟨8, A, B, src⟩ = 1 := rfl; omega
    obtain ⟨ba, oa, rfl, -, ha⟩ := hx.at0 (by omega)
    have l2 := hst (by simp)
    obtain ⟨bs, os, rfl, -, h2⟩ := hs.at0 l2
    exact l06Out_8 w c0 (ha 0 (by omega)) (h2 0 (by omega)) (by omega) (by omega)
  · have l : xs.length = 2 := by have : inN ⟨9, A, B, src⟩ = 2 := rfl; omega
    obtain ⟨ba, oa, rfl, -, ha⟩ := hx.at0 (by omega)
    exact l06Out_9 w c0 (ha 0 (by omega)) (ha 1 (by omega)) (by omega)
  · have l : xs.length = 1 := by have : inN ⟨10, A, B, src⟩ = 1 := rfl; omega
    obtain ⟨ba, oa, rfl, -, ha⟩ := hx.at0 (by omega)
    exact l06Out_10 w c0 c1 (ha 0 (by omega)) (by omega) (hsh rfl) (hsm _ (getD_mem (by omega)))
  · have l : xs.length = 1 := by have : inN ⟨11, A, B, src⟩ = 1 := rfl; omega
    obtain ⟨ba, oa, rfl, -, ha⟩ := hx.at0 (by omega)
    exact l06Out_11 w c0 c1 (ha 0 (by omega)) (by omega) (hcl rfl)
  · have l2 := hst (by simp)
    obtain ⟨bs, os, rfl, -, h2⟩ := hs.at0 l2
    exact l06Out_12 w c0 (h2 0 (by omega)) (by omega)
  · have l : xs.length = 1 := by have : inN ⟨13, A, B, src⟩ = 1 := rfl; omega
    obtain ⟨ba, oa, rfl, -, ha⟩ := hx.at0 (by omega)
    obtain ⟨a0, a1, at_⟩ := htb rfl
    obtain ⟨j, rfl⟩ := Int.eq_ofNat_of_zero_le a0
    obtain ⟨bt, ot, q, c, rfl, -, hc, hr⟩ := ht.at0 (k := j) (by omega)
    have hm : tb.getD j [] ∈ tb := by
      rw [List.getD_eq_getElem?_getD, List.getElem?_eq_getElem (by omega)]
      exact List.getElem_mem _
    obtain ⟨t1, t2⟩ := at_ _ hm
    exact l06Out_13 w c0 c1 (ha 0 (by omega)) (by omega) (by omega) hc hr t1 t2
  · have l2 := hst (by simp)
    obtain ⟨bs, os, rfl, -, h2⟩ := hs.at0 l2
    exact l06Out_14 w c0 (h2 0 (by omega)) (by omega)
  · have l : xs.length = 3 := by have : inN ⟨15, A, B, src⟩ = 3 := rfl; omega
    obtain ⟨ba, oa, rfl, -, ha⟩ := hx.at0 (by omega)
    by_cases hp : 0 ≤ xs.getD 0 0
    · have e : outK (15 : Int).toNat A tb xs ss = xs.getD 1 0 := if_pos hp
      rw [e]
      exact l06Out_15_pos w c0 (ha 0 (by omega)) (ha 1 (by omega)) (by omega) hp
    · have e : outK (15 : Int).toNat A tb xs ss = xs.getD 2 0 := if_neg hp
      rw [e]
      exact l06Out_15_neg w c0 (ha 0 (by omega)) (ha 2 (by omega)) (by omega) hp
  · have l : xs.length = 2 := by have : inN ⟨16, A, B, src⟩ = 2 := rfl; omega
    obtain ⟨ba, oa, rfl, -, ha⟩ := hx.at0 (by omega)
    have l2 := hst (by simp)
    obtain ⟨bs, os, rfl, -, h2⟩ := hs.at0 l2
    by_cases hp : 0 < xs.getD 1 0
    · have e : outK (16 : Int).toNat A tb xs ss = xs.getD 0 0 := if_pos hp
      rw [e]
      exact l06Out_16_pos w c0 (ha 0 (by omega)) (ha 1 (by omega)) (by omega) hp
    · have e : outK (16 : Int).toNat A tb xs ss = ss.getD 0 0 := if_neg hp
      rw [e]
      exact l06Out_16_neg w c0 (ha 1 (by omega)) (h2 0 (by omega)) (by omega) (by omega) hp
  · have l : xs.length = 1 := by have : inN ⟨17, A, B, src⟩ = 1 := rfl; omega
    obtain ⟨ba, oa, rfl, -, ha⟩ := hx.at0 (by omega)
    have l2 := hst (by simp)
    obtain ⟨bs, os, rfl, -, h2⟩ := hs.at0 l2
    exact l06Out_17 w c0 c1 (ha 0 (by omega)) (h2 0 (by omega)) (by omega) (by omega)
end Go.Proofs.YtaapkpjokmoekaaGreatDoor

namespace Go.Proofs.YtaapkpjokmoekaaGreatDoor
open Go.ChangeShapes Go.WideShapes Go.ChangeAt Go.RowKit Go.Sort
set_option linter.unusedVariables false

end Go.Proofs.YtaapkpjokmoekaaGreatDoor

namespace Go.Proofs.YtaapkpjokmoekaaGreatDoor
open Go.ChangeShapes Go.WideShapes Go.ChangeAt Go.RowKit
set_option linter.unusedVariables false

theorem l00Own_any {p : Option Addr} {c : Nat} {xs : List Int} (w : World) (h : RdI w p xs) (hl : xs.length ≤ 1048576) :
    Calls Tryz.prog 136 #[.slice p xs.length c] w fun e w' => ∃ v, e = .returned v ∧ OwnI w.heap.size w' v xs ∧ Below w.heap.size w w' := by
  have h0 := OwnI.lit (B := w.heap.size) w [] (Nat.le_refl _) (by simp [maxLen])
  have hb := (Below.refl w.heap.size w).alloc (Nat.le_refl _) (.cells #[] 2)
  have h1 := h.below hb
  have hsz : w.heap.size ≤ (w.alloc (.cells #[] 2)).heap.size := hb.size
  go_enter Tryz.func136, Tryz.ntmps136
  go_wp2_with (at_builtin; refine wpList_append_int rfl _ _ rfl rfl h0 h1 rfl rfl (by simp; omega) hsz ?_; intro v' w1 hown1 hg1)
  go_ret
  exact ⟨_, rfl, by simpa using hown1, below_appended hb h0 hsz hg1⟩
theorem clone_any {p : Option Addr} {c : Nat} {xs : List Int} (w : World) (h : RdI w p xs) (hl : xs.length ≤ 1048576) :
    Calls Tryz.prog 94 #[.slice p xs.length c] w fun e w' => ∃ v, e = .returned v ∧ OwnI w.heap.size w' v xs ∧ Below w.heap.size w w' := by
  have h0 := OwnI.lit (B := w.heap.size) w [] (Nat.le_refl _) (by simp [maxLen])
  have hb := (Below.refl w.heap.size w).alloc (Nat.le_refl _) (.cells #[] 2)
  have h1 := h.below hb
  have hsz : w.heap.size ≤ (w.alloc (.cells #[] 2)).heap.size := hb.size
  go_enter Tryz.func94, Tryz.ntmps94
  go_wp2_with (at_builtin; refine wpList_append_int rfl _ _ rfl rfl h0 h1 rfl rfl (by simp; omega) hsz ?_; intro v' w1 hown1 hg1)
  go_ret
  exact ⟨_, rfl, by simpa using hown1, below_appended hb h0 hsz hg1⟩
end Go.Proofs.YtaapkpjokmoekaaGreatDoor

namespace Go.Proofs.YtaapkpjokmoekaaGreatDoor
open Go.ChangeShapes Go.WideShapes Go.ChangeAt Go.RowKit Go.Sort
set_option linter.unusedVariables false

theorem bdrew (w : World) : Below w.heap.size w w.drew := ⟨rfl, rfl, rfl, Nat.le_refl _, fun _ _ => rfl⟩
theorem Below.drewR {B : Nat} {a w : World} (h : Below B a w) : Below B a w.drew := ⟨h.os, h.tape, h.output, h.size, h.block⟩
theorem RdI.tail {w : World} {b o : Nat} {xs : List Int} (h : RdI w (some ⟨b, o, none⟩) xs) : RdI w (some ⟨b, o + 1, none⟩) (xs.drop 1) := by
  have hl := h.len
  refine ⟨by rw [List.length_drop]; omega, ?_⟩
  rcases h.cells with rfl | ⟨b', o', e, hc⟩
  · exact .inl rfl
  · simp only [Option.some.injEq, Addr.mk.injEq, and_true] at e
    obtain ⟨rfl, rfl⟩ := e
    refine .inr ⟨b, o + 1, rfl, fun i hi => ?_⟩
    rw [List.length_drop] at hi
    rw [List.getElem_drop, show o + 1 + i = o + (1 + i) by omega]
    exact hc (1 + i) (by omega)
theorem RdI.tailc {w : World} {b o m k : Nat} {xs : List Int} (h : RdI w (some ⟨b, o, none⟩) xs) (hm : xs.length = m + 1) (hk : m ≤ k) : RdI w (if k = 0 then some ⟨b, o, none⟩ else some ⟨b, o + 1, none⟩) (xs.drop 1) := by
  split
  · have e : xs.drop 1 = [] := List.eq_nil_of_length_eq_zero (by rw [List.length_drop]; omega)
    rw [e]; exact RdI.nil _ _
  · exact h.tail
/-- append of one number that is read somewhere, as one step of a region that draws its order -/
theorem step_append_rd {ops : Array Oper} {o : Oper} {a : Act} {K : Act → World → Prop} {Q : Exit → Act → World → Prop} {E : Prop} {w : World} {y : Int} (hgd : o.guard = none) (s x : Operand)
    (ho : o.op = .call { callee := .builtin .append, args := #[s, x], argTypes := #[26, 26] })
    {B : Nat} {v : Value} {xs : List Int} (hs : a.eval s = v) (hown : OwnI B w v xs) {p : Option Addr} {c : Nat} (hr : RdI w p [y]) (hx : a.eval x = .slice p 1 c) (hlen : xs.length < 17592186044415) (hB : B ≤ w.heap.size)
    (h : ∀ q c w', OwnI B w' (.slice q (xs.length + 1) c) (xs ++ [y]) → w.os = w'.os → w.tape = w'.tape → w.output = w'.output → w.heap.size ≤ w'.heap.size → (∀ k, k < w.heap.size → v.ownBlock ≠ some k → w'.heap[k]? = w.heap[k]?) → K (a.put o.dst (.slice q (xs.length + 1) c)) w') :
    if Region.wanted o (yielded ops a.tmps) = true then Oper.wp Tryz.prog o a w K Q else E := by
  have hw : Region.wanted o (yielded ops a.tmps) = true := by simp [Region.wanted, hgd]
  rw [if_pos hw]
  obtain ⟨v', w', h1, h2, h3⟩ := run_append_int w o.type hown (c := c) hr (by simp only [List.length_cons, List.length_nil]; omega) hB
  obtain ⟨q, c, rfl, -⟩ := h2.rd
  have e : (xs ++ [y]).length = xs.length + 1 := by simp
  rw [e] at h1 h2
  unfold Oper.wp execOp
  simp only [List.length_cons, List.length_nil] at h1
  simp only [ho, resolve, invoke, builtin, Sem.run_bind, Sem.run_pure, Result.andThen_ok, List.map_toArray, List.map_cons, List.map_nil, hs, hx, h1]
  exact h q c w' h2 h3.os.symm h3.tape.symm h3.output.symm h3.size fun k hk hne => h3.block k hk (fun e => hne e.symm)
theorem below_step {w0 w w' : World} {v : Value} {xs : List Int} (h : Below w0.heap.size w0 w) (hown : OwnI w0.heap.size w v xs) (o1 : w.os = w'.os) (o2 : w.tape = w'.tape) (o3 : w.output = w'.output) (hs : w.heap.size ≤ w'.heap.size)
    (hk : ∀ k, k < w.heap.size → v.ownBlock ≠ some k → w'.heap[k]? = w.heap[k]?) : Below w0.heap.size w0 w' :=
  ⟨o1.symm.trans h.os, o2.symm.trans h.tape, o3.symm.trans h.output, Nat.le_trans h.size hs, fun k hkk => (hk k (Nat.lt_of_lt_of_le hkk h.size) fun e => by have := (hown.lt e).1; omega).trans (h.block k hkk)⟩
set_option maxHeartbeats 4000000 in
set_option maxRecDepth 100000 in
theorem l06Next_6_1 {b o : Nat} {ba oa na ca : Nat} {x0 : Int} {bs os m : Nat} {tl : List Int} {y : Int} (w : World) (c0 : w.cell? ⟨b, o, none⟩ = some (.int .i64 6)) (hx0 : w.cell? ⟨ba, oa, none⟩ = some (.int .i64 x0)) (la : 1 ≤ na) (hr : RdI w (some ⟨bs, os, none⟩) tl) (hm : tl.length = m) (hl : m ≤ 16) :
    Calls Tryz.prog 116 #[.pointer (some ⟨b, o, none⟩), .slice (some ⟨ba, oa, none⟩) na ca, .slice (some ⟨bs, os, none⟩) (m + 1) (1), .int .i64 y] w fun e w' => ∃ u, e = .returned u ∧ OwnI w.heap.size w' u (tl ++ [x0]) ∧ Below w.heap.size w w' := by
  have K : Hid (∀ W, Below w.heap.size w W → Calls Tryz.prog 136 #[.slice (some ⟨bs, os, none⟩) m (0)] W fun e w' => ∃ v, e = .returned v ∧ OwnI w.heap.size w' v tl ∧ Below W.heap.size W w' ∧ Below w.heap.size w w') := fun W hW => by
    have h := l00Own_any (c := 0) W (hr.below hW) (by omega)
    rw [hm] at h
    exact h.mono fun e w' ⟨v, h1, h2, h3⟩ => ⟨v, h1, h2.mono hW.size, h3, hW.trans (h3.mono hW.size)⟩
  have g0 : 0 < na := la
  have lt0 := World.block_lt_of_cell? w _ hx0
  have hlen : tl.length < 17592186044415 := by omega
  clear hr hm
  have g1 : (1 : Int) ≤ (m : Int) + 1 := by omega
  go_enter Tryz.func116, Tryz.ntmps116
  go_wp2_with fail
  go_region_law (first | (go_simp; go_at_call 136; refine (K.out _ (by repeat (first | exact Below.refl _ _ | assumption | refine Below.alloc ?_ (by first | exact Nat.le_refl _ | omega | (simp; done)) _ | refine Below.drewR ?_))).mono ?_; rintro e W2 ⟨u, rfl, hu, hb2, hb3⟩; obtain ⟨sp, sc, rfl, -⟩ := hu.rd; (first | (have hlit : RdI W2 (some ⟨w.heap.size, 0, none⟩) [x0] := (rdI_one w x0).below hb2) | (have hlit : RdI W2 (some ⟨w.heap.size, 0, none⟩) [x0] := (rdI_one w x0).below (below_drew' hb2)) | skip); have hx0 := (hb3.cell (p := ⟨ba, oa, none⟩) lt0).trans hx0; have hsz := hb3.size) | (refine step_append_one rfl _ _ rfl rfl hu rfl hlen hsz ?_; intro q2 k2 w2 ho2 o1 o2 o3 hs2 hk2) | (refine step_append_rd rfl _ _ rfl rfl hu hlit rfl hlen hsz ?_; intro q2 k2 w2 ho2 o1 o2 o3 hs2 hk2) | fail)
  all_goals (go_wp2_with fail; go_ret; exact ⟨_, rfl, ho2, below_step hb3 hu o1 o2 o3 hs2 hk2⟩)
set_option maxHeartbeats 4000000 in
set_option maxRecDepth 100000 in
theorem l06Next_17_1 {b o : Nat} {va : Value} {bs os m : Nat} {tl : List Int} {y : Int} (w : World) (c0 : w.cell? ⟨b, o, none⟩ = some (.int .i64 17)) (hr : RdI w (some ⟨bs, os, none⟩) tl) (hm : tl.length = m) (hl : m ≤ 16) :
    Calls Tryz.prog 116 #[.pointer (some ⟨b, o, none⟩), va, .slice (some ⟨bs, os, none⟩) (m + 1) (1), .int .i64 y] w fun e w' => ∃ u, e = .returned u ∧ OwnI w.heap.size w' u (tl ++ [y]) ∧ Below w.heap.size w w' := by
  have K : Hid (Calls Tryz.prog 136 #[.slice (some ⟨bs, os, none⟩) m (0)] w fun e w' => ∃ v, e = .returned v ∧ OwnI w.heap.size w' v tl ∧ Below w.heap.size w w') := by
    have h := l00Own_any (c := 0) w hr (by omega)
    rw [hm] at h; exact h
  have hlen : tl.length < 17592186044415 := by omega
  clear hr hm
  have g1 : (1 : Int) ≤ (m : Int) + 1 := by omega
  go_enter Tryz.func116, Tryz.ntmps116
  go_wp2_with (first | (go_at_call 136; refine K.out.mono ?_; rintro e W2 ⟨u, rfl, hu, hb2⟩; have hsz := hb2.size) | (at_builtin; refine wpList_append_one rfl _ _ rfl rfl hu rfl hb2 hlen hsz (Nat.le_refl _) ?_; intro v' w1 hown1 hbel1 _ _) | fail)
  go_ret
  exact ⟨_, rfl, hown1, hbel1⟩
set_option maxHeartbeats 4000000 in
set_option maxRecDepth 100000 in
theorem l06Next_6_2 {b o : Nat} {ba oa na ca : Nat} {x0 : Int} {bs os m k : Nat} {tl : List Int} {y : Int} (w : World) (c0 : w.cell? ⟨b, o, none⟩ = some (.int .i64 6)) (hx0 : w.cell? ⟨ba, oa, none⟩ = some (.int .i64 x0)) (la : 1 ≤ na) (hr : RdI w (some ⟨bs, os + 1, none⟩) tl) (hm : tl.length = m) (hl : m ≤ 16) :
    Calls Tryz.prog 116 #[.pointer (some ⟨b, o, none⟩), .slice (some ⟨ba, oa, none⟩) na ca, .slice (some ⟨bs, os, none⟩) (m + 1) (k + 1 + 1), .int .i64 y] w fun e w' => ∃ u, e = .returned u ∧ OwnI w.heap.size w' u (tl ++ [x0]) ∧ Below w.heap.size w w' := by
  have K : Hid (∀ W, Below w.heap.size w W → Calls Tryz.prog 136 #[.slice (some ⟨bs, os + 1, none⟩) m (k + 1)] W fun e w' => ∃ v, e = .returned v ∧ OwnI w.heap.size w' v tl ∧ Below W.heap.size W w' ∧ Below w.heap.size w w') := fun W hW => by
    have h := l00Own_any (c := k + 1) W (hr.below hW) (by omega)
    rw [hm] at h
    exact h.mono fun e w' ⟨v, h1, h2, h3⟩ => ⟨v, h1, h2.mono hW.size, h3, hW.trans (h3.mono hW.size)⟩
  have g0 : 0 < na := la
  have lt0 := World.block_lt_of_cell? w _ hx0
  have hlen : tl.length < 17592186044415 := by omega
  clear hr hm
  have g1 : (1 : Int) ≤ (m : Int) + 1 := by omega
  go_enter Tryz.func116, Tryz.ntmps116
  go_wp2_with fail
  go_region_law (first | (go_simp; go_at_call 136; refine (K.out _ (by repeat (first | exact Below.refl _ _ | assumption | refine Below.alloc ?_ (by first | exact Nat.le_refl _ | omega | (simp; done)) _ | refine Below.drewR ?_))).mono ?_; rintro e W2 ⟨u, rfl, hu, hb2, hb3⟩; obtain ⟨sp, sc, rfl, -⟩ := hu.rd; (first | (have hlit : RdI W2 (some ⟨w.heap.size, 0, none⟩) [x0] := (rdI_one w x0).below hb2) | (have hlit : RdI W2 (some ⟨w.heap.size, 0, none⟩) [x0] := (rdI_one w x0).below (below_drew' hb2)) | skip); have hx0 := (hb3.cell (p := ⟨ba, oa, none⟩) lt0).trans hx0; have hsz := hb3.size) | (refine step_append_one rfl _ _ rfl rfl hu rfl hlen hsz ?_; intro q2 k2 w2 ho2 o1 o2 o3 hs2 hk2) | (refine step_append_rd rfl _ _ rfl rfl hu hlit rfl hlen hsz ?_; intro q2 k2 w2 ho2 o1 o2 o3 hs2 hk2) | fail)
  all_goals (go_wp2_with fail; go_ret; exact ⟨_, rfl, ho2, below_step hb3 hu o1 o2 o3 hs2 hk2⟩)
set_option maxHeartbeats 4000000 in
set_option maxRecDepth 100000 in
theorem l06Next_17_2 {b o : Nat} {va : Value} {bs os m k : Nat} {tl : List Int} {y : Int} (w : World) (c0 : w.cell? ⟨b, o, none⟩ = some (.int .i64 17)) (hr : RdI w (some ⟨bs, os + 1, none⟩) tl) (hm : tl.length = m) (hl : m ≤ 16) :
    Calls Tryz.prog 116 #[.pointer (some ⟨b, o, none⟩), va, .slice (some ⟨bs, os, none⟩) (m + 1) (k + 1 + 1), .int .i64 y] w fun e w' => ∃ u, e = .returned u ∧ OwnI w.heap.size w' u (tl ++ [y]) ∧ Below w.heap.size w w' := by
  have K : Hid (Calls Tryz.prog 136 #[.slice (some ⟨bs, os + 1, none⟩) m (k + 1)] w fun e w' => ∃ v, e = .returned v ∧ OwnI w.heap.size w' v tl ∧ Below w.heap.size w w') := by
    have h := l00Own_any (c := k + 1) w hr (by omega)
    rw [hm] at h; exact h
  have hlen : tl.length < 17592186044415 := by omega
  clear hr hm
  have g1 : (1 : Int) ≤ (m : Int) + 1 := by omega
  go_enter Tryz.func116, Tryz.ntmps116
  go_wp2_with (first | (go_at_call 136; refine K.out.mono ?_; rintro e W2 ⟨u, rfl, hu, hb2⟩; have hsz := hb2.size) | (at_builtin; refine wpList_append_one rfl _ _ rfl rfl hu rfl hb2 hlen hsz (Nat.le_refl _) ?_; intro v' w1 hown1 hbel1 _ _) | fail)
  go_ret
  exact ⟨_, rfl, hown1, hbel1⟩
set_option maxHeartbeats 4000000 in
set_option maxRecDepth 100000 in
theorem l06Next_7 {b o : Nat} {va : Value} {vs : Value} {y : Int} (w : World) (c0 : w.cell? ⟨b, o, none⟩ = some (.int .i64 7)) :
    Calls Tryz.prog 116 #[.pointer (some ⟨b, o, none⟩), va, vs, .int .i64 y] w fun e w' => ∃ u, e = .returned u ∧ OwnI w.heap.size w' u ([y]) ∧ Below w.heap.size w w' := by
  go_enter Tryz.func116, Tryz.ntmps116
  go_wp2_with fail
  go_ret
  exact ⟨_, rfl, OwnI.lit (B := w.heap.size) _ [y] (by first | exact Nat.le_refl _ | simp) (by simp [maxLen]), by (repeat (first | exact Below.refl _ _ | assumption | refine Below.setCell ?_ (by first | exact Nat.le_refl _ | omega | (simp; done) | (simp; omega)) _ | refine Below.alloc ?_ (by first | exact Nat.le_refl _ | omega | (simp; done) | (simp; omega)) _ | refine below_drewN ?_ _))⟩
set_option maxHeartbeats 4000000 in
set_option maxRecDepth 100000 in
theorem l06Next_16 {b o : Nat} {va : Value} {vs : Value} {y : Int} (w : World) (c0 : w.cell? ⟨b, o, none⟩ = some (.int .i64 16)) :
    Calls Tryz.prog 116 #[.pointer (some ⟨b, o, none⟩), va, vs, .int .i64 y] w fun e w' => ∃ u, e = .returned u ∧ OwnI w.heap.size w' u ([y]) ∧ Below w.heap.size w w' := by
  go_enter Tryz.func116, Tryz.ntmps116
  go_wp2_with fail
  go_ret
  exact ⟨_, rfl, OwnI.lit (B := w.heap.size) _ [y] (by first | exact Nat.le_refl _ | simp) (by simp [maxLen]), by (repeat (first | exact Below.refl _ _ | assumption | refine Below.setCell ?_ (by first | exact Nat.le_refl _ | omega | (simp; done) | (simp; omega)) _ | refine Below.alloc ?_ (by first | exact Nat.le_refl _ | omega | (simp; done) | (simp; omega)) _ | refine below_drewN ?_ _))⟩
set_option maxHeartbeats 4000000 in
set_option maxRecDepth 100000 in
theorem l06Next_8 {b o : Nat} {ba oa na ca : Nat} {x0 : Int} {vs : Value} {y : Int} (w : World) (c0 : w.cell? ⟨b, o, none⟩ = some (.int .i64 8)) (hx0 : w.cell? ⟨ba, oa, none⟩ = some (.int .i64 x0)) (la : 1 ≤ na) :
    Calls Tryz.prog 116 #[.pointer (some ⟨b, o, none⟩), .slice (some ⟨ba, oa, none⟩) na ca, vs, .int .i64 y] w fun e w' => ∃ u, e = .returned u ∧ OwnI w.heap.size w' u ([x0]) ∧ Below w.heap.size w w' := by
  go_enter Tryz.func116, Tryz.ntmps116
  go_wp2_with fail
  go_ret
  exact ⟨_, rfl, OwnI.lit (B := w.heap.size) _ [x0] (by first | exact Nat.le_refl _ | simp) (by simp [maxLen]), by (repeat (first | exact Below.refl _ _ | assumption | refine Below.setCell ?_ (by first | exact Nat.le_refl _ | omega | (simp; done) | (simp; omega)) _ | refine Below.alloc ?_ (by first | exact Nat.le_refl _ | omega | (simp; done) | (simp; omega)) _ | refine below_drewN ?_ _))⟩
set_option maxHeartbeats 4000000 in
set_option maxRecDepth 100000 in
theorem l06Next_12 {b o : Nat} {ba oa na ca : Nat} {x0 : Int} {bs os ns cs : Nat} {s0 : Int} {y : Int} (w : World) (c0 : w.cell? ⟨b, o, none⟩ = some (.int .i64 12)) (hx0 : w.cell? ⟨ba, oa, none⟩ = some (.int .i64 x0)) (la : 1 ≤ na) (hs0 : w.cell? ⟨bs, os, none⟩ = some (.int .i64 s0)) (ls : 1 ≤ ns) :
    Calls Tryz.prog 116 #[.pointer (some ⟨b, o, none⟩), .slice (some ⟨ba, oa, none⟩) na ca, .slice (some ⟨bs, os, none⟩) ns cs, .int .i64 y] w fun e w' => ∃ u, e = .returned u ∧ OwnI w.heap.size w' u ([smp (s0 + x0)]) ∧ Below w.heap.size w w' := by
  have g0 : 0 < na := la
  have g2 : 0 < ns := ls
  go_enter Tryz.func116, Tryz.ntmps116
  go_wp2_with fail
  go_region_law (first | (go_simp; go_at_call 131; refine (l01Add_any _ _ _).mono ?_; rintro e w' ⟨rfl, rfl⟩) | fail)
  all_goals (go_wp2_with fail; go_ret; exact ⟨_, rfl, OwnI.lit (B := w.heap.size) _ [smp (s0 + x0)] (by first | exact Nat.le_refl _ | simp) (by simp [maxLen]), by (repeat (first | exact Below.refl _ _ | assumption | refine Below.setCell ?_ (by first | exact Nat.le_refl _ | omega | (simp; done) | (simp; omega)) _ | refine Below.alloc ?_ (by first | exact Nat.le_refl _ | omega | (simp; done) | (simp; omega)) _ | refine below_drewN ?_ _))⟩)
set_option maxHeartbeats 4000000 in
set_option maxRecDepth 100000 in
theorem l06Next_14 {b o : Nat} {va : Value} {bs os ns cs : Nat} {s0 : Int} {y : Int} (w : World) (c0 : w.cell? ⟨b, o, none⟩ = some (.int .i64 14)) (hs0 : w.cell? ⟨bs, os, none⟩ = some (.int .i64 s0)) (ls : 1 ≤ ns) :
    Calls Tryz.prog 116 #[.pointer (some ⟨b, o, none⟩), va, .slice (some ⟨bs, os, none⟩) ns cs, .int .i64 y] w fun e w' => ∃ u, e = .returned u ∧ OwnI w.heap.size w' u ([noiseP s0]) ∧ Below w.heap.size w w' := by
  go_enter Tryz.func116, Tryz.ntmps116
  go_wp2_with (go_at_call 137; refine (l06Noise_any _ _).mono ?_; rintro e w' ⟨rfl, rfl⟩)
  go_ret
  exact ⟨_, rfl, OwnI.lit (B := w.heap.size) _ [noiseP s0] (by first | exact Nat.le_refl _ | simp) (by simp [maxLen]), by (repeat (first | exact Below.refl _ _ | assumption | refine Below.setCell ?_ (by first | exact Nat.le_refl _ | omega | (simp; done) | (simp; omega)) _ | refine Below.alloc ?_ (by first | exact Nat.le_refl _ | omega | (simp; done) | (simp; omega)) _ | refine below_drewN ?_ _))⟩
set_option maxHeartbeats 4000000 in
set_option maxRecDepth 100000 in
theorem l06Next_1 {b o : Nat} {va : Value} {vs : Value} {y : Int} (w : World) (c0 : w.cell? ⟨b, o, none⟩ = some (.int .i64 1)) :
    Calls Tryz.prog 116 #[.pointer (some ⟨b, o, none⟩), va, vs, .int .i64 y] w fun e w' => ∃ u, e = .returned u ∧ OwnI w.heap.size w' u ([]) ∧ Below w.heap.size w w' := by
  go_enter Tryz.func116, Tryz.ntmps116
  go_wp2_with fail
  go_ret
  exact ⟨_, rfl, OwnI.lit (B := w.heap.size) _ [] (by first | exact Nat.le_refl _ | simp) (by simp [maxLen]), by (repeat (first | exact Below.refl _ _ | assumption | refine Below.setCell ?_ (by first | exact Nat.le_refl _ | omega | (simp; done) | (simp; omega)) _ | refine Below.alloc ?_ (by first | exact Nat.le_refl _ | omega | (simp; done) | (simp; omega)) _ | refine below_drewN ?_ _))⟩
set_option maxHeartbeats 4000000 in
set_option maxRecDepth 100000 in
theorem l06Next_2 {b o : Nat} {va : Value} {vs : Value} {y : Int} (w : World) (c0 : w.cell? ⟨b, o, none⟩ = some (.int .i64 2)) :
    Calls Tryz.prog 116 #[.pointer (some ⟨b, o, none⟩), va, vs, .int .i64 y] w fun e w' => ∃ u, e = .returned u ∧ OwnI w.heap.size w' u ([]) ∧ Below w.heap.size w w' := by
  go_enter Tryz.func116, Tryz.ntmps116
  go_wp2_with fail
  go_ret
  exact ⟨_, rfl, OwnI.lit (B := w.heap.size) _ [] (by first | exact Nat.le_refl _ | simp) (by simp [maxLen]), by (repeat (first | exact Below.refl _ _ | assumption | refine Below.setCell ?_ (by first | exact Nat.le_refl _ | omega | (simp; done) | (simp; omega)) _ | refine Below.alloc ?_ (by first | exact Nat.le_refl _ | omega | (simp; done) | (simp; omega)) _ | refine below_drewN ?_ _))⟩
set_option maxHeartbeats 4000000 in
set_option maxRecDepth 100000 in
theorem l06Next_3 {b o : Nat} {va : Value} {vs : Value} {y : Int} (w : World) (c0 : w.cell? ⟨b, o, none⟩ = some (.int .i64 3)) :
    Calls Tryz.prog 116 #[.pointer (some ⟨b, o, none⟩), va, vs, .int .i64 y] w fun e w' => ∃ u, e = .returned u ∧ OwnI w.heap.size w' u ([]) ∧ Below w.heap.size w w' := by
  go_enter Tryz.func116, Tryz.ntmps116
  go_wp2_with fail
  go_ret
  exact ⟨_, rfl, OwnI.lit (B := w.heap.size) _ [] (by first | exact Nat.le_refl _ | simp) (by simp [maxLen]), by (repeat (first | exact Below.refl _ _ | assumption | refine Below.setCell ?_ (by first | exact Nat.le_refl _ | omega | (simp; done) | (simp; omega)) _ | refine Below.alloc ?_ (by first | exact Nat.le_refl _ | omega | (simp; done) | (simp; omega)) _ | refine below_drewN ?_ _))⟩
set_option maxHeartbeats 4000000 in
set_option maxRecDepth 100000 in
theorem l06Next_4 {b o : Nat} {va : Value} {vs : Value} {y : Int} (w : World) (c0 : w.cell? ⟨b, o, none⟩ = some (.int .i64 4)) :
    Calls Tryz.prog 116 #[.pointer (some ⟨b, o, none⟩), va, vs, .int .i64 y] w fun e w' => ∃ u, e = .returned u ∧ OwnI w.heap.size w' u ([]) ∧ Below w.heap.size w w' := by
  go_enter Tryz.func116, Tryz.ntmps116
  go_wp2_with fail
  go_ret
  exact ⟨_, rfl, OwnI.lit (B := w.heap.size) _ [] (by first | exact Nat.le_refl _ | simp) (by simp [maxLen]), by (repeat (first | exact Below.refl _ _ | assumption | refine Below.setCell ?_ (by first | exact Nat.le_refl _ | omega | (simp; done) | (simp; omega)) _ | refine Below.alloc ?_ (by first | exact Nat.le_refl _ | omega | (simp; done) | (simp; omega)) _ | refine below_drewN ?_ _))⟩
set_option maxHeartbeats 4000000 in
set_option maxRecDepth 100000 in
theorem l06Next_5 {b o : Nat} {va : Value} {vs : Value} {y : Int} (w : World) (c0 : w.cell? ⟨b, o, none⟩ = some (.int .i64 5)) :
    Calls Tryz.prog 116 #[.pointer (some ⟨b, o, none⟩), va, vs, .int .i64 y] w fun e w' => ∃ u, e = .returned u ∧ OwnI w.heap.size w' u ([]) ∧ Below w.heap.size w w' := by
  go_enter Tryz.func116, Tryz.ntmps116
  go_wp2_with fail
  go_ret
  exact ⟨_, rfl, OwnI.lit (B := w.heap.size) _ [] (by first | exact Nat.le_refl _ | simp) (by simp [maxLen]), by (repeat (first | exact Below.refl _ _ | assumption | refine Below.setCell ?_ (by first | exact Nat.le_refl _ | omega | (simp; done) | (simp; omega)) _ | refine Below.alloc ?_ (by first | exact Nat.le_refl _ | omega | (simp; done) | (simp; omega)) _ | refine below_drewN ?_ _))⟩
set_option maxHeartbeats 4000000 in
set_option maxRecDepth 100000 in
theorem l06Next_9 {b o : Nat} {va : Value} {vs : Value} {y : Int} (w : World) (c0 : w.cell? ⟨b, o, none⟩ = some (.int .i64 9)) :
    Calls Tryz.prog 116 #[.pointer (some ⟨b, o, none⟩), va, vs, .int .i64 y] w fun e w' => ∃ u, e = .returned u ∧ OwnI w.heap.size w' u ([]) ∧ Below w.heap.size w w' := by
  go_enter Tryz.func116, Tryz.ntmps116
  go_wp2_with fail
  go_ret
  exact ⟨_, rfl, OwnI.lit (B := w.heap.size) _ [] (by first | exact Nat.le_refl _ | simp) (by simp [maxLen]), by (repeat (first | exact Below.refl _ _ | assumption | refine Below.setCell ?_ (by first | exact Nat.le_refl _ | omega | (simp; done) | (simp; omega)) _ | refine Below.alloc ?_ (by first | exact Nat.le_refl _ | omega | (simp; done) | (simp; omega)) _ | refine below_drewN ?_ _))⟩
set_option maxHeartbeats 4000000 in
set_option maxRecDepth 100000 in
theorem l06Next_10 {b o : Nat} {va : Value} {vs : Value} {y : Int} (w : World) (c0 : w.cell? ⟨b, o, none⟩ = some (.int .i64 10)) :
    Calls Tryz.prog 116 #[.pointer (some ⟨b, o, none⟩), va, vs, .int .i64 y] w fun e w' => ∃ u, e = .returned u ∧ OwnI w.heap.size w' u ([]) ∧ Below w.heap.size w w' := by
  go_enter Tryz.func116, Tryz.ntmps116
  go_wp2_with fail
  go_ret
  exact ⟨_, rfl, OwnI.lit (B := w.heap.size) _ [] (by first | exact Nat.le_refl _ | simp) (by simp [maxLen]), by (repeat (first | exact Below.refl _ _ | assumption | refine Below.setCell ?_ (by first | exact Nat.le_refl _ | omega | (simp; done) | (simp; omega)) _ | refine Below.alloc ?_ (by first | exact Nat.le_refl _ | omega | (simp; done) | (simp; omega)) _ | refine below_drewN ?_ _))⟩
set_option maxHeartbeats 4000000 in
set_option maxRecDepth 100000 in
theorem l06Next_11 {b o : Nat} {va : Value} {vs : Value} {y : Int} (w : World) (c0 : w.cell? ⟨b, o, none⟩ = some (.int .i64 11)) :
    Calls Tryz.prog 116 #[.pointer (some ⟨b, o, none⟩), va, vs, .int .i64 y] w fun e w' => ∃ u, e = .returned u ∧ OwnI w.heap.size w' u ([]) ∧ Below w.heap.size w w' := by
  go_enter Tryz.func116, Tryz.ntmps116
  go_wp2_with fail
  go_ret
  exact ⟨_, rfl, OwnI.lit (B := w.heap.size) _ [] (by first | exact Nat.le_refl _ | simp) (by simp [maxLen]), by (repeat (first | exact Below.refl _ _ | assumption | refine Below.setCell ?_ (by first | exact Nat.le_refl _ | omega | (simp; done) | (simp; omega)) _ | refine Below.alloc ?_ (by first | exact Nat.le_refl _ | omega | (simp; done) | (simp; omega)) _ | refine below_drewN ?_ _))⟩
set_option maxHeartbeats 4000000 in
set_option maxRecDepth 100000 in
theorem l06Next_13 {b o : Nat} {va : Value} {vs : Value} {y : Int} (w : World) (c0 : w.cell? ⟨b, o, none⟩ = some (.int .i64 13)) :
    Calls Tryz.prog 116 #[.pointer (some ⟨b, o, none⟩), va, vs, .int .i64 y] w fun e w' => ∃ u, e = .returned u ∧ OwnI w.heap.size w' u ([]) ∧ Below w.heap.size w w' := by
  go_enter Tryz.func116, Tryz.ntmps116
  go_wp2_with fail
  go_ret
  exact ⟨_, rfl, OwnI.lit (B := w.heap.size) _ [] (by first | exact Nat.le_refl _ | simp) (by simp [maxLen]), by (repeat (first | exact Below.refl _ _ | assumption | refine Below.setCell ?_ (by first | exact Nat.le_refl _ | omega | (simp; done) | (simp; omega)) _ | refine Below.alloc ?_ (by first | exact Nat.le_refl _ | omega | (simp; done) | (simp; omega)) _ | refine below_drewN ?_ _))⟩
set_option maxHeartbeats 4000000 in
set_option maxRecDepth 100000 in
theorem l06Next_15 {b o : Nat} {va : Value} {vs : Value} {y : Int} (w : World) (c0 : w.cell? ⟨b, o, none⟩ = some (.int .i64 15)) :
    Calls Tryz.prog 116 #[.pointer (some ⟨b, o, none⟩), va, vs, .int .i64 y] w fun e w' => ∃ u, e = .returned u ∧ OwnI w.heap.size w' u ([]) ∧ Below w.heap.size w w' := by
  go_enter Tryz.func116, Tryz.ntmps116
  go_wp2_with fail
  go_ret
  exact ⟨_, rfl, OwnI.lit (B := w.heap.size) _ [] (by first | exact Nat.le_refl _ | simp) (by simp [maxLen]), by (repeat (first | exact Below.refl _ _ | assumption | refine Below.setCell ?_ (by first | exact Nat.le_refl _ | omega | (simp; done) | (simp; omega)) _ | refine Below.alloc ?_ (by first | exact Nat.le_refl _ | omega | (simp; done) | (simp; omega)) _ | refine below_drewN ?_ _))⟩
theorem l06Next_any {b o : Nat} {x : NodeD} {tb : List (List Int)} {xs ss : List Int} {px ps : Option Addr} {cx cs : Nat} (y : Int) (w : World) (h : PNode w b o x) (hx : RdI w px xs) (hs : RdI w ps ss) (hcs : ss.length ≤ cs) (hs16 : ss.length ≤ 16) (ok : OutOk x tb xs ss) :
    Calls Tryz.prog 116 #[.pointer (some ⟨b, o, none⟩), .slice px xs.length cx, .slice ps ss.length cs, .int .i64 y] w fun e w' => ∃ u, e = .returned u ∧ OwnI w.heap.size w' u (nextP x xs ss y) ∧ Below w.heap.size w w' := by
  obtain ⟨k, A, B, src⟩ := x
  obtain ⟨c0, c1, -, -⟩ := h
  obtain ⟨hk, hn, hst, hsm, hcl, hsh, htb⟩ := ok
  unfold nextP
  simp only at *
  rcases kinds_of hk with rfl | rfl | rfl | rfl | rfl | rfl | rfl | rfl | rfl | rfl | rfl | rfl | rfl | rfl | rfl | rfl | rfl
  · exact l06Next_1 w c0
  · exact l06Next_2 w c0
  · exact l06Next_3 w c0
  · exact l06Next_4 w c0
  · exact l06Next_5 w c0
  · have l : xs.length = 1 := by have : inN ⟨6, A, B, src⟩ = 1 := rfl; omega
    obtain ⟨ba, oa, rfl, -, ha⟩ := hx.at0 (by omega)
    have l2 := hst (by simp)
    obtain ⟨bs, os, rfl, -, h2⟩ := hs.at0 l2
    obtain ⟨m, hm⟩ : ∃ m, ss.length = m + 1 := ⟨ss.length - 1, by omega⟩
    rw [hm]
    have hcs' : cs = 1 ∨ ∃ q, cs = q + 1 + 1 := (Nat.lt_or_ge cs 2).elim (fun h => .inl (by omega)) (fun h => .inr ⟨cs - 2, by omega⟩)
    rcases hcs' with rfl | ⟨q, rfl⟩
    · exact l06Next_6_1 w c0 (ha 0 (by omega)) (by omega) (show RdI w _ (ss.drop 1) from by rw [show ss.drop 1 = [] from List.eq_nil_of_length_eq_zero (by rw [List.length_drop]; omega)]; exact RdI.nil _ _) (by rw [List.length_drop]; omega) (by omega)
    · exact l06Next_6_2 w c0 (ha 0 (by omega)) (by omega) hs.tail (by rw [List.length_drop]; omega) (by omega)
  · exact l06Next_7 w c0
  · have l : xs.length = 1 := by have : inN ⟨8, A, B, src⟩ = 1 := rfl; omega
    obtain ⟨ba, oa, rfl, -, ha⟩ := hx.at0 (by omega)
    exact l06Next_8 w c0 (ha 0 (by omega)) (by omega)
  · exact l06Next_9 w c0
  · exact l06Next_10 w c0
  · exact l06Next_11 w c0
  · have l : xs.length = 1 := by have : inN ⟨12, A, B, src⟩ = 1 := rfl; omega
    obtain ⟨ba, oa, rfl, -, ha⟩ := hx.at0 (by omega)
    have l2 := hst (by simp)
    obtain ⟨bs, os, rfl, -, h2⟩ := hs.at0 l2
    exact l06Next_12 w c0 (ha 0 (by omega)) (by omega) (h2 0 (by omega)) (by omega)
  · exact l06Next_13 w c0
  · have l2 := hst (by simp)
    obtain ⟨bs, os, rfl, -, h2⟩ := hs.at0 l2
    exact l06Next_14 w c0 (h2 0 (by omega)) (by omega)
  · exact l06Next_15 w c0
  · exact l06Next_16 w c0
  · have l2 := hst (by simp)
    obtain ⟨bs, os, rfl, -, h2⟩ := hs.at0 l2
    obtain ⟨m, hm⟩ : ∃ m, ss.length = m + 1 := ⟨ss.length - 1, by omega⟩
    rw [hm]
    have hcs' : cs = 1 ∨ ∃ q, cs = q + 1 + 1 := (Nat.lt_or_ge cs 2).elim (fun h => .inl (by omega)) (fun h => .inr ⟨cs - 2, by omega⟩)
    rcases hcs' with rfl | ⟨q, rfl⟩
    · exact l06Next_17_1 w c0 (show RdI w _ (ss.drop 1) from by rw [show ss.drop 1 = [] from List.eq_nil_of_length_eq_zero (by rw [List.length_drop]; omega)]; exact RdI.nil _ _) (by rw [List.length_drop]; omega) (by omega)
    · exact l06Next_17_2 w c0 hs.tail (by rw [List.length_drop]; omega) (by omega)
end Go.Proofs.YtaapkpjokmoekaaGreatDoor

namespace Go.Proofs.YtaapkpjokmoekaaGreatDoor
open Go.ChangeShapes Go.WideShapes Go.ChangeAt Go.RowKit Go.Sort
set_option linter.unusedVariables false

theorem smp_wrap_mul6 (x a s : Int) : smp (wrap64 (x + wrap64 (a * s))) = smp (x + smp (a * s)) := by
  rw [smp_wrap64]
  obtain ⟨k, hk⟩ := smp_mod (a * s)
  rw [hk]
  refine smp_eq ?_
  unfold wrap64
  omega
/-- a fresh list of one number behind the node's box -/
theorem lit6_done {w E0 W : World} (hB0 : Below w.heap.size w E0) (h : Below E0.heap.size E0 W) (y z : Int) (hy : y = z) :
    OwnI w.heap.size (W.alloc (.cells #[.int .i64 y] 2)) (.slice (some ⟨W.heap.size, 0, none⟩) 1 1) [z] ∧ Below w.heap.size w (W.alloc (.cells #[.int .i64 y] 2)) := by
  subst hy
  have h1 := hB0.trans (h.mono hB0.size)
  exact ⟨OwnI.lit (B := w.heap.size) W [y] h1.size (by simp [maxLen]), h1.alloc h1.size _⟩
theorem lit6_done_d {w E0 W : World} (hB0 : Below w.heap.size w E0) (h : Below E0.heap.size E0 W) (y z : Int) (hy : y = z) :
    OwnI w.heap.size (W.alloc (.cells #[.int .i64 y] 2)).drew (.slice (some ⟨W.heap.size, 0, none⟩) 1 1) [z] ∧ Below w.heap.size w (W.alloc (.cells #[.int .i64 y] 2)).drew :=
  ⟨(lit6_done hB0 h y z hy).1.drew, Below.drewR (lit6_done hB0 h y z hy).2⟩
theorem tup6_eq {a b : Int} {u : Value} (h : a = b) : Ending.returned (.tuple #[.int .i64 a, u]) = Ending.returned (.tuple #[.int .i64 b, u]) := by rw [h]
end Go.Proofs.YtaapkpjokmoekaaGreatDoor

namespace Go.Proofs.YtaapkpjokmoekaaGreatDoor
open Go.ChangeShapes Go.WideShapes Go.ChangeAt Go.RowKit Go.Sort
set_option linter.unusedVariables false

theorem smp_wrap_mul (x a s : Int) : smp (wrap64 (x + wrap64 (a * s))) = smp (x + smp (a * s)) := by
  rw [smp_wrap64]
  obtain ⟨k, hk⟩ := smp_mod (a * s)
  rw [hk]
  refine smp_eq ?_
  unfold wrap64
  omega
/-- a fresh list of one number behind the node's box -/
theorem lit_done {w E0 W : World} (hB0 : Below w.heap.size w E0) (h : Below E0.heap.size E0 W) (y z : Int) (hy : y = z) :
    OwnI w.heap.size (W.alloc (.cells #[.int .i64 y] 2)) (.slice (some ⟨W.heap.size, 0, none⟩) 1 1) [z] ∧ Below w.heap.size w (W.alloc (.cells #[.int .i64 y] 2)) := by
  subst hy
  have h1 := hB0.trans (h.mono hB0.size)
  exact ⟨OwnI.lit (B := w.heap.size) W [y] h1.size (by simp [maxLen]), h1.alloc h1.size _⟩
theorem lit_done_d {w E0 W : World} (hB0 : Below w.heap.size w E0) (h : Below E0.heap.size E0 W) (y z : Int) (hy : y = z) :
    OwnI w.heap.size (W.alloc (.cells #[.int .i64 y] 2)).drew (.slice (some ⟨W.heap.size, 0, none⟩) 1 1) [z] ∧ Below w.heap.size w (W.alloc (.cells #[.int .i64 y] 2)).drew :=
  ⟨(lit_done hB0 h y z hy).1.drew, Below.drewR (lit_done hB0 h y z hy).2⟩
theorem smp_wrapI (n : Int) : smp (IntKind.i64.wrap n) = smp n := by rw [IntWalk.i64_left]; exact smp_wrap64 n
theorem tup_eq {a b : Int} {u : Value} (h : a = b) : Ending.returned (.tuple #[.int .i64 a, u]) = Ending.returned (.tuple #[.int .i64 b, u]) := by rw [h]
end Go.Proofs.YtaapkpjokmoekaaGreatDoor

namespace Go.Proofs.YtaapkpjokmoekaaGreatDoor
open Go.ChangeShapes Go.WideShapes Go.ChangeAt Go.RowKit Go.Sort
set_option linter.unusedVariables false

theorem NodeD.ext' {x y : NodeD} (h : x.kind = y.kind ∧ x.a = y.a ∧ x.b = y.b ∧ x.src = y.src) : x = y := by
  obtain ⟨a, b, c, d⟩ := x
  obtain ⟨a', b', c', d'⟩ := y
  obtain ⟨h1, h2, h3, h4⟩ := h
  simp only at h1 h2 h3 h4
  subst h1 h2 h3 h4
  rfl
instance : DecidableEq NodeD := fun x y =>
  if h : x.kind = y.kind ∧ x.a = y.a ∧ x.b = y.b ∧ x.src = y.src then isTrue (NodeD.ext' h)
  else isFalse fun e => h (by subst e; exact ⟨rfl, rfl, rfl, rfl⟩)
theorem node_eq (x y : NodeD) (b1 b2 b3 b4 : Bool) (h1 : (x.kind == y.kind) = b1) (h2 : (x.a == y.a) = b2) (h3 : (x.b == y.b) = b3) (h4 : decide (x.src = y.src) = b4) : decide (x = y) = (b1 && (b2 && (b3 && b4))) := by
  subst h1 h2 h3 h4
  rw [Bool.eq_iff_iff, decide_eq_true_iff]
  simp only [Bool.and_eq_true, beq_iff_eq, decide_eq_true_iff]
  exact ⟨fun e => by subst e; exact ⟨rfl, rfl, rfl, rfl⟩, fun ⟨a, b, c, d⟩ => NodeD.ext' ⟨a, b, c, d⟩⟩
/-- two patches are the same -/
def pEq (x y : PatchD) : Bool := decide (x.inputs = y.inputs) && (decide (x.tables = y.tables) && (decide (x.outputs = y.outputs) && decide (x.nodes = y.nodes)))
theorem pEq_of {x y : PatchD} {b1 b2 b3 b4 : Bool} (h1 : decide (x.inputs = y.inputs) = b1) (h2 : decide (x.tables = y.tables) = b2) (h3 : decide (x.outputs = y.outputs) = b3) (h4 : decide (x.nodes = y.nodes) = b4) : pEq x y = (b1 && (b2 && (b3 && b4))) := by
  unfold pEq; rw [h1, h2, h3, h4]
set_option maxHeartbeats 1600000 in
theorem l07SameNode_any {b o b' o' : Nat} {x y : NodeD} (w : World) (h : PNode w b o x) (h' : PNode w b' o' y) :
    Calls Tryz.prog 29 #[.pointer (some ⟨b, o, none⟩), .pointer (some ⟨b', o', none⟩)] w fun e w' => e = .returned (.bool (decide (x = y))) ∧ Drawn w w' := by
  obtain ⟨z0, z1, z2, q, d, z3, hr⟩ := h
  obtain ⟨y0, y1, y2, q', d', y3, hr'⟩ := h'
  have HR := Lib.hid (node_eq x y)
  have HN : Hid (∀ m, Calls Tryz.prog 28 #[.slice q x.src.length d, .slice q' y.src.length d'] (w.drewN m) fun e w' => e = .returned (.bool (decide (x.src = y.src))) ∧ ∃ j, w' = (w.drewN m).drewN j) := fun m => l00Same_any (c := d) (d := d') _ (hr.drewN m) (hr'.drewN m)
  clear hr hr'
  generalize decide (x = y) = R at HR ⊢
  cases e1 : (x.kind == y.kind)
  case false =>
    obtain rfl := HR.out _ _ _ _ e1 rfl rfl rfl
    go_enter Tryz.func29, Tryz.ntmps29
    go_wp2_with fail
    go_quiet (fail)
    go_wp2_with fail
    go_ret
    exact ⟨rfl, (Drawn.refl w).on _⟩
  cases e2 : (x.a == y.a)
  case false =>
    obtain rfl := HR.out _ _ _ _ e1 e2 rfl rfl
    go_enter Tryz.func29, Tryz.ntmps29
    go_wp2_with fail
    go_quiet (fail)
    go_wp2_with fail
    go_ret
    exact ⟨rfl, (Drawn.refl w).on _⟩
  cases e3 : (x.b == y.b)
  case false =>
    obtain rfl := HR.out _ _ _ _ e1 e2 e3 rfl
    go_enter Tryz.func29, Tryz.ntmps29
    go_wp2_with fail
    go_quiet (fail)
    go_wp2_with fail
    go_ret
    exact ⟨rfl, (Drawn.refl w).on _⟩
  obtain rfl := HR.out _ _ _ _ e1 e2 e3 rfl
  go_enter Tryz.func29, Tryz.ntmps29
  go_wp2_with fail
  go_quiet ((go_at_call 28; exact Calls.quiet_of (HN.out _)))
  go_wp2_with fail
  go_ret
  exact ⟨rfl, (Drawn.refl w).on _⟩
set_option maxHeartbeats 3200000 in
set_option maxRecDepth 100000 in
theorem specSamePatch_v {v v' : Value} {x y : PatchD} (w : World) (h : VPatch w v x) (h' : VPatch w v' y) :
    Calls Tryz.prog 13 #[v, v'] w fun e w' => e = .returned (.bool (pEq x y)) ∧ Below w.heap.size w w' := by
  obtain ⟨p1, c1, p2, c2, p3, c3, rfl, r1, r2, r3⟩ := h
  obtain ⟨q1, d1, q2, d2, q3, d3, rfl, s1, s2, s3⟩ := h'
  have hl1 := r2.len
  have hl2 := s2.len
  have hl3 := r1.len
  have hl4 := s1.len
  unfold maxLen at hl1 hl2 hl3 hl4
  have HR : Hid (∀ b1 b2 b3 b4, decide (x.inputs = y.inputs) = b1 → decide (x.tables = y.tables) = b2 → decide (x.outputs = y.outputs) = b3 → decide (x.nodes = y.nodes) = b4 → pEq x y = (b1 && (b2 && (b3 && b4)))) := fun b1 b2 b3 b4 h1 h2 h3 h4 => pEq_of h1 h2 h3 h4
  generalize pEq x y = R at HR ⊢
  obtain ⟨E0, hE0⟩ : ∃ E, E = (w.alloc (.cells #[.int .i64 x.inputs, .slice p1 x.tables.length c1, .slice p2 x.nodes.length c2, .slice p3 x.outputs.length c3] 28)).alloc (.cells #[.int .i64 y.inputs, .slice q1 y.tables.length d1, .slice q2 y.nodes.length d2, .slice q3 y.outputs.length d3] 28) := ⟨_, rfl⟩
  have hB0 : Below w.heap.size w E0 := by rw [hE0]; exact ((Below.refl _ _).alloc (Nat.le_refl _) _).alloc (by simp) _
  have ba0 : Box E0 w.heap.size [.int .i64 x.inputs, .slice p1 x.tables.length c1, .slice p2 x.nodes.length c2, .slice p3 x.outputs.length c3] 28 := by
    rw [hE0]
    exact (Box.newAt w [.int .i64 x.inputs, .slice p1 x.tables.length c1, .slice p2 x.nodes.length c2, .slice p3 x.outputs.length c3] 28 rfl).alloc _
  have bb0 : Box E0 (w.heap.size + 1) [.int .i64 y.inputs, .slice q1 y.tables.length d1, .slice q2 y.nodes.length d2, .slice q3 y.outputs.length d3] 28 := by
    rw [hE0]
    exact Box.newAt (w.alloc _) _ _ (by simp)
  have HE := Lib.hid hE0
  clear hE0
  have SM := Lib.hid (l00Same_any (c := c3) (d := d3) E0 (r3.below hB0) (s3.below hB0))
  have SM' : Hid (∀ b, decide (x.outputs = y.outputs) = b → Calls Tryz.prog 28 #[.slice p3 x.outputs.length c3, .slice q3 y.outputs.length d3] E0 fun e w' => e = .returned (.bool b) ∧ Drawn E0 w') := fun b hb => by rw [← hb]; exact SM.out
  clear SM
  by_cases e1 : x.inputs = y.inputs
  case neg =>
    have n1 : (x.inputs != y.inputs) = true := by rw [bne_iff_ne]; exact e1
    obtain rfl := HR.out _ _ _ _ (decide_eq_false e1) rfl rfl rfl
    go_enter Tryz.func13, Tryz.ntmps13
    go_wp2_with fail
    go_ret
    exact ⟨rfl, by rw [← HE.out]; exact hB0⟩
  have n1 : (x.inputs != y.inputs) = false := by rw [bne_eq_false_iff_eq]; exact e1
  have E1 := Lib.hid (decide_eq_true e1)
  clear e1
  by_cases ht : x.tables.length = y.tables.length
  case neg =>
    have n4 : ((x.tables.length : Int) != (y.tables.length : Int)) = true := by rw [bne_iff_ne]; omega
    obtain rfl := HR.out _ _ _ _ E1.out (decide_eq_false fun e => ht (by rw [e])) rfl rfl
    clear ht
    go_enter Tryz.func13, Tryz.ntmps13
    go_wp2_with fail
    go_ret
    exact ⟨rfl, by rw [← HE.out]; exact hB0⟩
  have n2 : ((x.tables.length : Int) != (y.tables.length : Int)) = false := by rw [bne_eq_false_iff_eq]; omega
  have HLT := Lib.hid ht
  clear ht
  by_cases hl : x.nodes.length = y.nodes.length
  case neg =>
    have n4 : ((x.nodes.length : Int) != (y.nodes.length : Int)) = true := by rw [bne_iff_ne]; omega
    have e4 : decide (x.nodes = y.nodes) = false := decide_eq_false fun e => hl (by rw [e])
    have hR : R = false := by rw [HR.out _ _ _ _ E1.out rfl rfl e4]; simp
    subst hR
    clear e4 hl
    go_enter Tryz.func13, Tryz.ntmps13
    go_wp2_with fail
    go_ret
    exact ⟨rfl, by rw [← HE.out]; exact hB0⟩
  have n4 : ((x.nodes.length : Int) != (y.nodes.length : Int)) = false := by rw [bne_eq_false_iff_eq]; omega
  have HL := Lib.hid hl
  clear hl
  cases e3 : decide (x.outputs = y.outputs)
  case false =>
    have SM := Lib.hid (SM'.out _ e3)
    have hR : R = false := by rw [HR.out _ _ _ _ E1.out rfl e3 rfl]; simp
    subst hR
    clear e3
    have ha2 := ba0.cell 2 rfl
    have ha3 := ba0.cell 3 rfl
    have hb2 := bb0.cell 2 rfl
    have hb3 := bb0.cell 3 rfl
    go_enter Tryz.func13, Tryz.ntmps13
    go_wp2_with fail
    rw [← HE.out]
    refine SM.out.mono ?_
    rintro e E1' ⟨rfl, hd⟩
    go_wp2_with fail
    go_ret
    exact ⟨rfl, hB0.trans (hd.below _)⟩
  have SM := Lib.hid (SM'.out _ e3)
  have HR2 : Hid (∀ b2 b4, decide (x.tables = y.tables) = b2 → decide (x.nodes = y.nodes) = b4 → R = (b2 && b4)) := fun b2 b4 h2 h4 => by rw [HR.out _ _ _ _ E1.out h2 e3 h4]; simp
  clear e3 SM' HR
  go_enter Tryz.func13, Tryz.ntmps13
  go_wp2_with fail
  rw [← HE.out]
  refine SM.out.mono ?_
  rintro e E2 ⟨rfl, hd⟩
  have ba1 := ba0.below (hd.below _)
  have bb1 := bb0.below (hd.below _)
  have hB1 : Below w.heap.size w E2 := hB0.trans (hd.below _)
  replace r1 := r1.below hB1
  replace r2 := r2.below hB1
  replace s1 := s1.below hB1
  replace s2 := s2.below hB1
  clear hd ba0 bb0 HE SM hB0 r3 s3
  go_wp2_with fail
  go_loopw [5] (fun i wr => ∃ k : Nat, k ≤ x.tables.length ∧ i = .int .i64 k ∧ x.tables.take k = y.tables.take k ∧ Drawn E2 wr) (fun i _ => x.tables.length - (intOf i).toNat)
  case atStart => exact ⟨0, Nat.zero_le _, rfl, rfl, Drawn.refl _⟩
  case round =>
    obtain ⟨k, hk, rfl, ht, hdr⟩ := hrel
    have HT := Lib.hid ht
    clear ht
    obtain ⟨wi, rfl⟩ : ∃ wi : World, wi = wr := ⟨_, rfl⟩
    have ba2 := ba1.below (hdr.below _)
    have bb2 := bb1.below (hdr.below _)
    have za1 := ba2.cell 1 rfl
    have zb1 := bb2.cell 1 rfl
    by_cases hlt : k < x.tables.length
    · have hlt2 : k < y.tables.length := by have := HLT.out; omega
      obtain ⟨b, o, rfl, hb, hc⟩ := (hdr.rdII r1).pos hlt
      obtain ⟨b', o', rfl, hb', hc'⟩ := (hdr.rdII s1).pos hlt2
      obtain ⟨q, d, z, hr⟩ := hc k hlt
      obtain ⟨q', d', z', hr'⟩ := hc' k hlt2
      clear hc hc'
      generalize hx : x.tables[k] = tx at z hr
      generalize hyy : y.tables[k] = ty at z' hr'
      have HX := Lib.hid hx
      have HY := Lib.hid hyy
      clear hx hyy
      have HN : Hid (∀ c, decide (tx = ty) = c → ∀ m, Calls Tryz.prog 28 #[.slice q tx.length d, .slice q' ty.length d'] (wi.drewN m) fun e w' => e = .returned (.bool c) ∧ ∃ j, w' = (wi.drewN m).drewN j) := fun c hc m => by
        have := l00Same_any (c := d) (d := d') _ (hr.drewN m) (hr'.drewN m)
        rwa [hc] at this
      clear hr hr'
      cases e5 : decide (tx = ty)
      case false =>
        have HN' := Lib.hid (HN.out _ e5)
        have hne : tx ≠ ty := of_decide_eq_false e5
        have hR : R = false := by rw [HR2.out _ _ (eqq_false hlt hlt2 (by rw [HX.out, HY.out]; exact hne)) rfl]; rfl
        subst hR
        clear e5 hne HN
        go_wp2_with fail
        go_quiet ((go_at_call 28; exact Calls.quiet_of (HN'.out _)))
        go_wp2_with fail
        go_ret
        exact ⟨rfl, hB1.trans ((hdr.on _).below _)⟩
      case true =>
        have HN' := Lib.hid (HN.out _ e5)
        have hee : tx = ty := of_decide_eq_true e5
        have HEE := Lib.hid hee
        clear e5 hee HN
        go_wp2_with fail
        go_quiet ((go_at_call 28; exact Calls.quiet_of (HN'.out _)))
        go_wp2_with fail
        go_roundw
        case rel => exact ⟨k + 1, by omega, by go_num, eqq_step hlt hlt2 HT.out (by rw [HX.out, HY.out, HEE.out]), hdr.on _⟩
        case measure => simp [intOf] <;> omega
    · obtain rfl : k = x.tables.length := by omega
      have HTT : Hid (decide (x.tables = y.tables) = true) := eqq_true HLT.out HT.out
      have hB2 := hB1.trans (hdr.below _)
      replace r2 := r2.below (hdr.below _)
      replace s2 := s2.below (hdr.below _)
      clear hdr ba1 bb1 r1 s1 HT hB1
      have za2 := ba2.cell 2 rfl
      go_wp2_with fail
      clear za1 zb1 za2
      obtain ⟨W0, hW0⟩ : ∃ W : World, W = wi := ⟨_, rfl⟩
      rw [← hW0] at ba2 bb2 hB2 r2 s2 ⊢
      clear hW0
      go_loopw [6] (fun i wr => ∃ k : Nat, k ≤ x.nodes.length ∧ i = .int .i64 k ∧ x.nodes.take k = y.nodes.take k ∧ Drawn W0 wr) (fun i _ => x.nodes.length - (intOf i).toNat)
      case atStart => exact ⟨0, Nat.zero_le _, rfl, rfl, Drawn.refl _⟩
      case round =>
        obtain ⟨k, hk, rfl, ht, hdr⟩ := hrel
        have HT := Lib.hid ht
        clear ht
        obtain ⟨wi, rfl⟩ : ∃ wi : World, wi = wr := ⟨_, rfl⟩
        have ba3 := ba2.below (hdr.below _)
        have bb3 := bb2.below (hdr.below _)
        have za1 := ba3.cell 2 rfl
        have zb1 := bb3.cell 2 rfl
        by_cases hlt : k < x.nodes.length
        · have hlt2 : k < y.nodes.length := by have := HL.out; omega
          obtain ⟨b, o, rfl, hb, hc⟩ := (r2.below (hdr.below _)).pos hlt
          obtain ⟨b', o', rfl, hb', hc'⟩ := (s2.below (hdr.below _)).pos hlt2
          have hr := hc k hlt
          have hr' := hc' k hlt2
          clear hc hc'
          generalize hx : x.nodes[k] = tx at hr
          generalize hyy : y.nodes[k] = ty at hr'
          have HX := Lib.hid hx
          have HY := Lib.hid hyy
          clear hx hyy
          have HN : Hid (∀ c, decide (tx = ty) = c → ∀ m, Calls Tryz.prog 29 #[.pointer (some ⟨b, o + k * 4, none⟩), .pointer (some ⟨b', o' + k * 4, none⟩)] (wi.drewN m) fun e w' => e = .returned (.bool c) ∧ ∃ j, w' = (wi.drewN m).drewN j) := fun c hc m => by
            have hm : Below wi.heap.size wi (wi.drewN m) := below_drewN (Below.refl _ _) m
            have := l07SameNode_any _ (hr.below hm) (hr'.below hm)
            rwa [hc] at this
          clear hr hr'
          cases e5 : decide (tx = ty)
          case false =>
            have HN' := Lib.hid (HN.out _ e5)
            have hne : tx ≠ ty := of_decide_eq_false e5
            have hR : R = false := by rw [HR2.out _ _ HTT.out (eqq_false hlt hlt2 (by rw [HX.out, HY.out]; exact hne))]; rfl
            subst hR
            clear e5 hne HN
            go_wp2_with fail
            go_quiet ((go_at_call 29; exact Calls.quiet_of (HN'.out _)))
            go_wp2_with fail
            go_ret
            exact ⟨rfl, hB2.trans ((hdr.on _).below _)⟩
          case true =>
            have HN' := Lib.hid (HN.out _ e5)
            have hee : tx = ty := of_decide_eq_true e5
            have HEE := Lib.hid hee
            clear e5 hee HN
            go_wp2_with fail
            go_quiet ((go_at_call 29; exact Calls.quiet_of (HN'.out _)))
            go_wp2_with fail
            go_roundw
            case rel => exact ⟨k + 1, by omega, by go_num, eqq_step hlt hlt2 HT.out (by rw [HX.out, HY.out, HEE.out]), hdr.on _⟩
            case measure => simp [intOf] <;> omega
        · obtain rfl : k = x.nodes.length := by omega
          have hR : R = true := by rw [HR2.out _ _ HTT.out (eqq_true HL.out HT.out)]; rfl
          subst hR
          go_wp2_with fail
          go_ret
          exact ⟨rfl, hB2.trans (hdr.below _)⟩
end Go.Proofs.YtaapkpjokmoekaaGreatDoor

namespace Go.Proofs.YtaapkpjokmoekaaGreatDoor
open Go.ChangeShapes Go.WideShapes Go.ChangeAt Go.RowKit Go.Sort
set_option linter.unusedVariables false

theorem any_contains (xs : List Int) (n : Int) : xs.any (· == n) = xs.contains n := by
  rw [Bool.eq_iff_iff]
  simp
/-- a literal of integers, as a slice that reads it -/
theorem rdI_lit' (w : World) (xs : List Int) (hm : xs.length ≤ 1048576) : RdI (w.alloc (.cells (xs.map (Value.int .i64)).toArray 2)) (some ⟨w.heap.size, 0, none⟩) xs := by
  have ho := OwnI.lit (B := w.heap.size) w xs (Nat.le_refl _) (by unfold maxLen; omega)
  rcases ho.cases with ⟨h, _⟩ | ⟨g, cap, hv, _, _, _, hr⟩
  · simp at h
  · simp only [Value.slice.injEq, Option.some.injEq, Addr.mk.injEq, and_true] at hv
    obtain ⟨rfl, -, -⟩ := hv
    exact hr
theorem rdI_lit4 (w : World) : RdI (w.alloc (.cells (([2, 4, 8, 16] : List Int).map (Value.int .i64)).toArray 2)) (some ⟨w.heap.size, 0, none⟩) [2, 4, 8, 16] := rdI_lit' w _ (by simp)
theorem areIndices_any {p : Option Addr} {c : Nat} {xs : List Int} (n : Int) (w : World) (h : RdI w p xs) (h0 : 0 ≤ n) (hn : n ≤ 9223372036854775807) :
    Calls Tryz.prog 46 #[.slice p xs.length c, .int .i64 n] w fun e w' => e = .returned (.bool (xs.all fun f => inB f 0 (n - 1))) ∧ w = w' := by
  have hl := h.len
  unfold maxLen at hl
  go_enter Tryz.func46, Tryz.ntmps46
  go_wp2_with fail
  go_loop [9] (fun i => ∃ k : Nat, k ≤ xs.length ∧ i = .int .i64 k ∧ (xs.take k).all (fun f => inB f 0 (n - 1)) = true) (fun i => xs.length - (intOf i).toNat)
  case atStart => exact ⟨0, Nat.zero_le _, rfl, by simp⟩
  case round =>
    obtain ⟨k, hk, rfl, hall⟩ := hrel
    have HA := Lib.hid hall; clear hall
    by_cases hlt : k < xs.length
    · obtain ⟨b, o, rfl, hb, hc⟩ := h.pos hlt
      have hck := hc k hlt
      clear hc
      generalize hx : xs[k] = f at hck
      have HX := Lib.hid hx; clear hx
      cases hs : inB f 0 (n - 1)
      · go_wp2_with (go_at_call 43; refine (within_any _ _ _ _).mono ?_; rintro e w' ⟨rfl, rfl⟩)
        go_ret
        exact ⟨ret_bool (by rw [all_false hlt (by rw [HX.out]; exact hs)]), rfl⟩
      · go_wp2_with (go_at_call 43; refine (within_any _ _ _ _).mono ?_; rintro e w' ⟨rfl, rfl⟩)
        go_round
        case rel => exact ⟨k + 1, by omega, by go_num, all_step hlt HA.out (by rw [HX.out]; exact hs)⟩
        case measure => simp [intOf] <;> omega
    · obtain rfl : k = xs.length := by omega
      go_wp2_with fail
      go_ret
      exact ⟨ret_bool (all_done HA.out).symm, rfl⟩
theorem l03Ok_any {p : Option Addr} {c : Nat} {xs : List Int} (w : World) (h : RdI w p xs) :
    Calls Tryz.prog 65 #[.slice p xs.length c] w fun e w' => e = .returned (.bool (decide (xs.length ≤ 4000) && xs.all isSmp)) ∧ w = w' := by
  have hl := h.len
  unfold maxLen at hl
  by_cases h4 : xs.length ≤ 4000
  case neg =>
    have e : decide (xs.length ≤ 4000) = false := decide_eq_false h4
    rw [e]
    clear e
    go_enter Tryz.func65, Tryz.ntmps65
    go_wp2_with fail
    go_ret
    exact ⟨rfl, rfl⟩
  have e : decide (xs.length ≤ 4000) = true := decide_eq_true h4
  rw [e, Bool.true_and]
  clear e
  go_enter Tryz.func65, Tryz.ntmps65
  go_wp2_with fail
  go_loop [3] (fun i => ∃ k : Nat, k ≤ xs.length ∧ i = .int .i64 k ∧ (xs.take k).all isSmp = true) (fun i => xs.length - (intOf i).toNat)
  case atStart => exact ⟨0, Nat.zero_le _, rfl, by simp⟩
  case round =>
    obtain ⟨k, hk, rfl, hall⟩ := hrel
    have HA := Lib.hid hall; clear hall
    by_cases hlt : k < xs.length
    · obtain ⟨b, o, rfl, hb, hc⟩ := h.pos hlt
      have hck := hc k hlt
      clear hc
      generalize hx : xs[k] = f at hck
      have HX := Lib.hid hx; clear hx
      cases hs : isSmp f
      · go_wp2_with (go_at_call 95; refine (l01Sample_any _ _).mono ?_; rintro e w' ⟨rfl, rfl⟩)
        go_ret
        exact ⟨ret_bool (by rw [all_false hlt (by rw [HX.out]; exact hs)]), rfl⟩
      · go_wp2_with (go_at_call 95; refine (l01Sample_any _ _).mono ?_; rintro e w' ⟨rfl, rfl⟩)
        go_round
        case rel => exact ⟨k + 1, by omega, by go_num, all_step hlt HA.out (by rw [HX.out]; exact hs)⟩
        case measure => simp [intOf] <;> omega
    · obtain rfl : k = xs.length := by omega
      go_wp2_with fail
      go_ret
      exact ⟨ret_bool (all_done HA.out).symm, rfl⟩
theorem tblB_of {t : List Int} {n : Nat} (hn : t.length = n) (b : Bool) (hb : t.all isSmp = b) : tblB t = ((decide (n = 2) || (decide (n = 4) || (decide (n = 8) || decide (n = 16)))) && b) := by
  unfold tblB; rw [hn, hb]
set_option maxHeartbeats 1600000 in
theorem areTables_any {p : Option Addr} {c : Nat} {xss : List (List Int)} (w : World) (h : RdII w p xss) :
    Calls Tryz.prog 44 #[.slice p xss.length c] w fun e w' => e = .returned (.bool (tablesB xss)) ∧ w = w' := by
  have hl := h.len
  unfold maxLen at hl
  have HR : Hid (∀ b, xss.all tblB = b → tablesB xss = (b && decide (xss.length ≤ 4))) := fun b hb => by unfold tablesB; rw [hb]
  generalize tablesB xss = R at HR ⊢
  go_enter Tryz.func44, Tryz.ntmps44
  go_wp2_with fail
  go_loop [8] (fun i => ∃ k : Nat, k ≤ xss.length ∧ i = .int .i64 k ∧ (xss.take k).all tblB = true) (fun i => xss.length - (intOf i).toNat)
  case atStart => exact ⟨0, Nat.zero_le _, rfl, by simp⟩
  case round =>
    obtain ⟨k, hk, rfl, hall⟩ := hrel
    have HA := Lib.hid hall; clear hall
    by_cases hlt : k < xss.length
    · obtain ⟨b, o, rfl, hb, hc⟩ := h.pos hlt
      obtain ⟨q, d, hck, hr⟩ := hc k hlt
      have SA := Lib.hid (areSamples_any (c := d) w hr)
      have hrl := hr.len
      unfold maxLen at hrl
      clear hc hr
      generalize hx : xss[k] = t at hck SA hrl
      have HX := Lib.hid hx; clear hx
      by_cases hn : t.length = 2 ∨ t.length = 4 ∨ t.length = 8 ∨ t.length = 16
      · cases hs : t.all isSmp
        · rw [hs] at SA
          have ht : tblB t = false := by unfold tblB; rw [hs, Bool.and_false]
          obtain rfl := HR.out _ (all_false hlt (by rw [HX.out]; exact ht))
          clear ht hs
          rcases hn with e | e | e | e <;> rw [e] at hck SA
          all_goals
            clear e hrl
            go_wp2_with (go_at_call 76; refine SA.out.mono ?_; rintro e w' ⟨rfl, rfl⟩)
            go_ret
            exact ⟨rfl, rfl⟩
        · rw [hs] at SA
          have ht : tblB t = true := by unfold tblB; rw [hs, Bool.and_true]; rcases hn with e | e | e | e <;> rw [e] <;> rfl
          have HS := Lib.hid (all_step hlt HA.out (by rw [HX.out]; exact ht))
          clear ht hs
          rcases hn with e | e | e | e <;> rw [e] at hck SA
          all_goals
            clear e hrl
            go_wp2_with (go_at_call 76; refine SA.out.mono ?_; rintro e w' ⟨rfl, rfl⟩)
            go_round
            case rel => exact ⟨k + 1, by omega, by go_num, HS.out⟩
            case measure => simp [intOf] <;> omega
      · have ht : tblB t = false := by
          unfold tblB
          rw [decide_eq_false (by omega), decide_eq_false (by omega), decide_eq_false (by omega), decide_eq_false (by omega)]; rfl
        obtain rfl := HR.out _ (all_false hlt (by rw [HX.out]; exact ht))
        have q1 : ((t.length : Int) != 2) = true := by rw [bne_iff_ne]; omega
        have q2 : ((t.length : Int) != 4) = true := by rw [bne_iff_ne]; omega
        have q3 : ((t.length : Int) != 8) = true := by rw [bne_iff_ne]; omega
        have q4 : ((t.length : Int) != 16) = true := by rw [bne_iff_ne]; omega
        clear ht hn SA
        go_wp2_with fail
        go_ret
        exact ⟨rfl, rfl⟩
    · obtain rfl : k = xss.length := by omega
      obtain rfl := HR.out _ (all_done HA.out)
      go_wp2_with fail
      go_ret
      exact ⟨ret_bool (by simp only [decide_eq_decide]; omega), rfl⟩
set_option maxHeartbeats 1600000 in
theorem l06Tables_any {p : Option Addr} {c : Nat} {xss : List (List Int)} (w : World) (h : RdII w p xss) :
    Calls Tryz.prog 80 #[.slice p xss.length c] w fun e w' => e = .returned (.bool (tablesB xss)) ∧ Below w.heap.size w w' := by
  have hl := h.len
  unfold maxLen at hl
  have HR : Hid (∀ b, xss.all tblB = b → tablesB xss = (b && decide (xss.length ≤ 4))) := fun b hb => by unfold tablesB; rw [hb]
  generalize tablesB xss = R at HR ⊢
  go_enter Tryz.func80, Tryz.ntmps80
  go_wp2_with fail
  go_loopw [3] (fun i wr => ∃ k : Nat, k ≤ xss.length ∧ i = .int .i64 k ∧ (xss.take k).all tblB = true ∧ Below w.heap.size w wr) (fun i _ => xss.length - (intOf i).toNat)
  case atStart => exact ⟨0, Nat.zero_le _, rfl, by simp, Below.refl _ _⟩
  case round =>
    obtain ⟨k, hk, rfl, hall, hbel⟩ := hrel
    have HA := Lib.hid hall; clear hall
    obtain ⟨wi, rfl⟩ : ∃ wi : World, wi = wr := ⟨_, rfl⟩
    by_cases hlt : k < xss.length
    · obtain ⟨b, o, rfl, hb, hc⟩ := (h.below hbel).pos hlt
      obtain ⟨q, d, hck, hr⟩ := hc k hlt
      have hrl := hr.len
      unfold maxLen at hrl
      have hb1 : Below wi.heap.size wi (wi.alloc (.cells (([2, 4, 8, 16] : List Int).map (Value.int .i64)).toArray 2)) := (Below.refl _ _).alloc (Nat.le_refl _) _
      have hB1 := hbel.trans (hb1.mono hbel.size)
      have HS := Lib.hid (l00Has_any (c := 4) (xss[k].length : Int) _ (rdI_lit4 wi))
      have OK := Lib.hid (l03Ok_any (c := d) _ (hr.below hb1))
      clear hc hr
      generalize hx : xss[k] = t at hck OK hrl HS
      have HX := Lib.hid hx; clear hx
      have e4 : ([2, 4, 8, 16] : List Int).any (· == (t.length : Int)) = (decide (t.length = 2) || (decide (t.length = 4) || (decide (t.length = 8) || decide (t.length = 16)))) := by
        rw [Bool.eq_iff_iff]
        simp only [List.any_cons, List.any_nil, Bool.or_false, Bool.or_eq_true, beq_iff_eq, decide_eq_true_iff]
        omega
      rw [e4] at HS
      clear e4
      by_cases hn : t.length = 2 ∨ t.length = 4 ∨ t.length = 8 ∨ t.length = 16
      · have h4 : decide (t.length ≤ 4000) = true := decide_eq_true (by omega)
        have h5 : (decide (t.length = 2) || (decide (t.length = 4) || (decide (t.length = 8) || decide (t.length = 16)))) = true := by
          rcases hn with e | e | e | e <;> rw [e] <;> rfl
        rw [h4, Bool.true_and] at OK
        rw [h5] at HS
        cases hs : t.all isSmp
        · rw [hs] at OK
          have ht : tblB t = false := by unfold tblB; rw [hs, Bool.and_false]
          obtain rfl := HR.out _ (all_false hlt (by rw [HX.out]; exact ht))
          clear ht hs h4 h5 hn
          go_wp2_with (first | (go_at_call 82; refine HS.out.mono ?_; rintro e w' ⟨rfl, rfl⟩) | (go_at_call 65; refine OK.out.mono ?_; rintro e w' ⟨rfl, rfl⟩))
          go_ret
          exact ⟨rfl, hB1⟩
        · rw [hs] at OK
          have ht : tblB t = true := by unfold tblB; rw [hs, Bool.and_true]; exact h5
          have HSS := Lib.hid (all_step hlt HA.out (by rw [HX.out]; exact ht))
          clear ht hs h4 h5 hn
          go_wp2_with (first | (go_at_call 82; refine HS.out.mono ?_; rintro e w' ⟨rfl, rfl⟩) | (go_at_call 65; refine OK.out.mono ?_; rintro e w' ⟨rfl, rfl⟩))
          go_roundw
          case rel => exact ⟨k + 1, by omega, by go_num, HSS.out, hB1⟩
          case measure => simp [intOf] <;> omega
      · have h5 : (decide (t.length = 2) || (decide (t.length = 4) || (decide (t.length = 8) || decide (t.length = 16)))) = false := by
          rw [decide_eq_false (by omega), decide_eq_false (by omega), decide_eq_false (by omega), decide_eq_false (by omega)]; rfl
        have ht : tblB t = false := by unfold tblB; rw [h5]; rfl
        rw [h5] at HS
        obtain rfl := HR.out _ (all_false hlt (by rw [HX.out]; exact ht))
        clear ht hn h5 OK
        go_wp2_with (go_at_call 82; refine HS.out.mono ?_; rintro e w' ⟨rfl, rfl⟩)
        go_ret
        exact ⟨rfl, hB1⟩
    · obtain rfl : k = xss.length := by omega
      obtain rfl := HR.out _ (all_done HA.out)
      go_wp2_with fail
      go_ret
      exact ⟨ret_bool (by rw [Bool.true_and, decide_eq_decide]; omega), hbel⟩
theorem waitsFor_v {v : Value} {x : NodeD} (w : World) (h : VNode w v x) :
    Calls Tryz.prog 49 #[v] w fun e w' => ∃ u, e = .returned u ∧ VI w' u (waits x) ∧ Below w.heap.size w w' := by
  obtain ⟨p3, c3, rfl, r3⟩ := h
  have hB0 : Below w.heap.size w (w.alloc (.cells #[.int .i64 x.kind, .int .i64 x.a, .int .i64 x.b, .slice p3 x.src.length c3] 35)) := (Below.refl _ _).alloc (Nat.le_refl _) _
  have r4 := r3.below hB0
  by_cases hk : x.kind = 6
  · have e : (x.kind == 6) = true := by rw [beq_iff_eq]; exact hk
    have HW : Hid (waits x = []) := by unfold Hid waits; rw [if_pos hk]
    clear hk
    go_enter Tryz.func49, Tryz.ntmps49
    go_wp2_with fail
    go_ret
    exact ⟨_, rfl, by rw [HW.out]; exact ⟨none, 0, rfl, RdI.nil _ _⟩, hB0⟩
  · have e : (x.kind == 6) = false := by rw [beq_eq_false_iff_ne]; exact hk
    have HW : Hid (waits x = x.src) := by unfold Hid waits; rw [if_neg hk]
    clear hk
    go_enter Tryz.func49, Tryz.ntmps49
    go_wp2_with fail
    go_ret
    exact ⟨_, rfl, by rw [HW.out]; exact ⟨p3, c3, rfl, r4⟩, hB0⟩
theorem l07Waits_any {b o : Nat} {x : NodeD} (w : World) (h : PNode w b o x) :
    Calls Tryz.prog 84 #[.pointer (some ⟨b, o, none⟩)] w fun e w' => ∃ u, e = .returned u ∧ VI w' u (waits x) ∧ Below w.heap.size w w' := by
  obtain ⟨z0, z1, z2, q, d, z3, hr⟩ := h
  by_cases hk : x.kind = 6
  · have e : (x.kind == 6) = true := by rw [beq_iff_eq]; exact hk
    have HW : Hid (waits x = []) := by unfold Hid waits; rw [if_pos hk]
    clear hk
    have hB0 : Below w.heap.size w (w.alloc (.cells #[] 2)) := (Below.refl _ _).alloc (Nat.le_refl _) _
    go_enter Tryz.func84, Tryz.ntmps84
    go_wp2_with fail
    go_ret
    exact ⟨_, rfl, by rw [HW.out]; exact ⟨_, 0, rfl, RdI.nil _ _⟩, hB0⟩
  · have e : (x.kind == 6) = false := by rw [beq_eq_false_iff_ne]; exact hk
    have HW : Hid (waits x = x.src) := by unfold Hid waits; rw [if_neg hk]
    clear hk
    go_enter Tryz.func84, Tryz.ntmps84
    go_wp2_with fail
    go_ret
    exact ⟨_, rfl, by rw [HW.out]; exact ⟨q, d, rfl, hr⟩, Below.refl _ _⟩
theorem l07All_any {p q : Option Addr} {c d : Nat} {xs ys : List Int} (w : World) (h : RdI w p xs) (h' : RdI w q ys) :
    Calls Tryz.prog 83 #[.slice p xs.length c, .slice q ys.length d] w fun e w' => e = .returned (.bool (xs.all fun f => ys.contains f)) ∧ w = w' := by
  have hl := h.len
  unfold maxLen at hl
  generalize hRR : (xs.all fun f => ys.contains f) = R
  have HR := Lib.hid hRR
  clear hRR
  go_enter Tryz.func83, Tryz.ntmps83
  go_wp2_with fail
  go_loop [5] (fun i => ∃ k : Nat, k ≤ xs.length ∧ i = .int .i64 k ∧ (xs.take k).all (fun f => ys.contains f) = true) (fun i => xs.length - (intOf i).toNat)
  case atStart => exact ⟨0, Nat.zero_le _, rfl, by simp⟩
  case round =>
    obtain ⟨k, hk, rfl, hall⟩ := hrel
    have HA := Lib.hid hall; clear hall
    by_cases hlt : k < xs.length
    · obtain ⟨b, o, rfl, hb, hc⟩ := h.pos hlt
      have hck := hc k hlt
      clear hc
      generalize hx : xs[k] = f at hck
      have HX := Lib.hid hx; clear hx
      have HS := Lib.hid (l00Has_any (c := d) f w h')
      rw [any_contains] at HS
      cases hs : ys.contains f
      · rw [hs] at HS
        have hR : R = false := by rw [← HR.out]; exact all_false hlt (by rw [HX.out]; exact hs)
        subst hR
        clear hs
        go_wp2_with (go_at_call 82; refine HS.out.mono ?_; rintro e w' ⟨rfl, rfl⟩)
        go_ret
        exact ⟨rfl, rfl⟩
      · rw [hs] at HS
        have HSS := Lib.hid (all_step (f := fun f => ys.contains f) hlt HA.out (by rw [HX.out]; exact hs))
        clear hs
        go_wp2_with (go_at_call 82; refine HS.out.mono ?_; rintro e w' ⟨rfl, rfl⟩)
        go_round
        case rel => exact ⟨k + 1, by omega, by go_num, HSS.out⟩
        case measure => simp [intOf] <;> omega
    · obtain rfl : k = xs.length := by omega
      have hR : R = true := by rw [← HR.out]; exact all_done HA.out
      subst hR
      go_wp2_with fail
      go_ret
      exact ⟨rfl, rfl⟩
end Go.Proofs.YtaapkpjokmoekaaGreatDoor

namespace Go.Proofs.YtaapkpjokmoekaaGreatDoor
open Go.ChangeShapes Go.WideShapes Go.ChangeAt Go.RowKit Go.Sort
set_option linter.unusedVariables false

/-- a slice that reads xs and has room for it -/
def VIc (w : World) (v : Value) (xs : List Int) : Prop := ∃ p c, v = .slice p xs.length c ∧ RdI w p xs ∧ xs.length ≤ c
theorem OwnLI.rdc {B : Nat} {w : World} {v : Value} {xs : List Int} {L : List Value} (h : OwnLI B w v xs L) : VIc w v xs := by
  obtain ⟨p, c, rfl, hr⟩ := h.rd
  exact ⟨p, c, rfl, hr, h.1.cap⟩
def stArgB (x : NodeD) (xs ss : List Int) : Bool := ((decide ((xs.length : Int) = inN x) && decide (ss.length = (startL x).length)) && xs.all isSmp) && ss.all isSmp
def snValid (x : NodeD) (tb : List (List Int)) : Bool := tablesB tb && nodeB x tb.length
def snCode (x : NodeD) (tb : List (List Int)) (xs ss : List Int) : Int := if snValid x tb then (if stArgB x xs ss then 0 else 2) else 1
def snOut (x : NodeD) (tb : List (List Int)) (xs ss : List Int) : Int := if snValid x tb && stArgB x xs ss then outP x tb xs ss else 0
def snNext (x : NodeD) (tb : List (List Int)) (xs ss : List Int) : List Int := if snValid x tb && stArgB x xs ss then nextP x xs ss (outP x tb xs ss) else []
theorem startL_pos {x : NodeD} {t : Int} (h : nodeB x t = true) (hk : x.kind = 6 ∨ x.kind = 7 ∨ x.kind = 8 ∨ x.kind = 12 ∨ x.kind = 14 ∨ x.kind = 16 ∨ x.kind = 17) : 1 ≤ (startL x).length := by
  rw [nodeB_split] at h
  simp only [Bool.and_eq_true] at h
  obtain ⟨_, h2, _, _, h5⟩ := h
  obtain ⟨k, a, b, src⟩ := x
  simp only at *
  rcases hk with rfl | rfl | rfl | rfl | rfl | rfl | rfl
  · have : inB a 1 16 = true := h2
    rw [inB_iff] at this
    show 1 ≤ (List.replicate a.toNat (0 : Int)).length
    rw [List.length_replicate]; omega
  · exact Nat.le_refl 1
  · exact Nat.le_refl 1
  · exact Nat.le_refl 1
  · exact Nat.le_refl 1
  · exact Nat.le_refl 1
  · have : inB b 1 16 = true := h5
    rw [inB_iff] at this
    show 1 ≤ (List.replicate b.toNat (0 : Int)).length
    rw [List.length_replicate]; omega
theorem OutOk.of {x : NodeD} {tb : List (List Int)} {xs ss : List Int} (ht : tablesB tb = true) (h : nodeB x tb.length = true) (hn : (xs.length : Int) = inN x) (hs : ss.length = (startL x).length) (hx : xs.all isSmp = true) : OutOk x tb xs ss := by
  have h0 := h
  rw [nodeB_split] at h
  simp only [Bool.and_eq_true] at h
  obtain ⟨h1, h2, _, _, _⟩ := h
  unfold tablesB at ht
  simp only [Bool.and_eq_true, List.all_eq_true, decide_eq_true_eq] at ht
  refine ⟨h1, hn, fun hk => by rw [hs]; exact startL_pos h0 hk, fun y hy => ?_, fun e => ?_, fun e => ?_, fun e => ?_⟩
  · have := List.all_eq_true.1 hx y hy
    unfold isSmp at this
    rwa [inB_iff] at this
  · rw [e] at h2
    have : inB x.a 0 2147483647 = true := h2
    rwa [inB_iff] at this
  · rw [e] at h2
    have : inB x.a 0 31 = true := h2
    rwa [inB_iff] at this
  · rw [e] at h2
    have : inB x.a 0 (min (max (tb.length : Int) 0) 4 - 1) = true := h2
    rw [inB_iff] at this
    refine ⟨by omega, by omega, fun t htm => ?_⟩
    have := ht.1 t htm
    unfold tblB at this
    simp only [Bool.and_eq_true, Bool.or_eq_true, decide_eq_true_eq] at this
    omega
theorem nextP_length {x : NodeD} {tb : List (List Int)} {xs ss : List Int} {y : Int} (h : ss.length ≤ 16) : (nextP x xs ss y).length ≤ 17 := by
  unfold nextP nextK
  split <;> simp <;> omega
theorem snNext_small (x : NodeD) (tb : List (List Int)) (xs ss : List Int) : cntI (snNext x tb xs ss) ≤ 1048576 := by
  unfold cntI snNext
  split
  · rename_i h
    simp only [snValid, stArgB, Bool.and_eq_true, decide_eq_true_eq] at h
    have h1 := startL_length (startOk_of h.1.2)
    have h2 := nextP_length (x := x) (tb := tb) (xs := xs) (ss := ss) (y := outP x tb xs ss) (by omega)
    omega
  · simp
/-- a sample, a list of the call's own, and a code -/
def RetS (w : World) (y : Int) (zs : List Int) (code : Int) (e : Ending) (w' : World) : Prop :=
  ∃ u L, e = .returned (.tuple #[.int .i64 y, u, .int .i64 code]) ∧ OwnLI w.heap.size w' u zs L ∧ Dis L ∧ Below w.heap.size w w'
theorem retS_nil {w w' : World} {code : Int} (hb : Below w.heap.size w w') : RetS w 0 [] code (.returned (.tuple #[.int .i64 0, .slice none 0 0, .int .i64 code])) w' :=
  ⟨_, _, rfl, OwnLI.nilu _ _, List.pairwise_singleton _ _, hb⟩
theorem retS_mk {w F w' : World} {y code : Int} {zs : List Int} {u : Value} (hb0 : Below w.heap.size w F) (ho : OwnI F.heap.size w' u zs) (hb : Below F.heap.size F w') : RetS w y zs code (.returned (.tuple #[.int .i64 y, u, .int .i64 code])) w' :=
  ⟨_, _, rfl, ⟨ho.mono hb0.size, rfl⟩, List.pairwise_singleton _ _, hb0.trans (hb.mono hb0.size)⟩
theorem kAr_le3' {k : Int} (h : inB k 1 17 = true) : kAr (k - 1).toNat ≤ 3 := by
  rcases kinds_of h with rfl | rfl | rfl | rfl | rfl | rfl | rfl | rfl | rfl | rfl | rfl | rfl | rfl | rfl | rfl | rfl | rfl
  all_goals decide
end Go.Proofs.YtaapkpjokmoekaaGreatDoor

namespace Go.Proofs.YtaapkpjokmoekaaGreatDoor
open Go.ChangeShapes Go.WideShapes Go.ChangeAt Go.RowKit Go.Sort
set_option linter.unusedVariables false

end Go.Proofs.YtaapkpjokmoekaaGreatDoor
