/-
  Several texts in one: DpC, DpD.
-/
import Derived.Test.YtcfhcmgmkhfjjaaGreatPk5
import Derived.Test.YtcfhcmgmkhfjjaaGreatPk12
import Derived.Deep.DeepCutAuto
namespace Go.Proofs.YtcfhcmgmkhfjjaaGreat
open Go.ChangeShapes Go.WideShapes Go.ChangeAt Go.RowKit Go.Sort
set_option linter.unusedVariables false
set_option linter.unusedSimpArgs false

/-- nodes of which a delay has an input -/
def KOk (ns : List NodeD) : Prop := ∀ nd ∈ ns, nd.src.length ≤ 4 ∧ (nd.kind = 6 → 1 ≤ nd.src.length)
/-- a drawn patch -/
def DrewQ (g m : Nat) (inp : Int) (no : Nat) (w : World) (e : Ending) (w' : World) : Prop := ∃ (x : PatchD) (v1 v2 v3 : Value) (L1 L : List Value), e = .returned (.agg #[.int .i64 x.inputs, v1, v2, v3]) ∧ OwnP w.heap.size w' v1 v2 v3 x.tables x.nodes x.outputs L1 L ∧ SrcAt w' g m ∧ Off (· = g) w w' ∧
  x.inputs = inp ∧ x.outputs.length = no ∧ 1 ≤ x.nodes.length ∧ x.nodes.length ≤ 9 ∧ x.tables.length ≤ 2 ∧ (∀ t ∈ x.tables, t.length ≤ 8) ∧ KOk x.nodes
/-- ahead of a node more -/
def LpN (g m : Nat) (w0 : World) (r s : Nat) (inp : Int) (v1 v3 : Value) (ts : List (List Int)) (L1 : List Value) (K : Nat → Prop) (wK wr : World) (ns : List NodeD) (v2 : Value) (L : List Value) : Prop :=
  DB g (m + 1010 + 450 * ns.length) w0 wr r s inp v1 v2 v3 ts ns [] L1 L ∧ DK K wK wr g s v1 v2 v3 L1 L ∧ KOk ns
/-- while a patch's next node is drawn: its box, its inputs -/
def NSt (g m : Nat) (w0 : World) (r s : Nat) (inp : Int) (v1 v2 v3 : Value) (ts : List (List Int)) (ns : List NodeD) (L1 L : List Value) (K : Nat → Prop) (wK : World) (A t : Nat) (kd : Int) (wx : World) : Prop :=
  ∃ (x : NodeD) (u : Value), Box wx t [.int .i64 x.kind, .int .i64 x.a, .int .i64 x.b, u] 55 ∧ OwnI A wx u x.src ∧ x.kind = kd ∧ (x.src.length : Int) = kAr (kd - 1).toNat ∧ DB g m w0 wx r s inp v1 v2 v3 ts ns [] L1 L ∧ DK K wK wx g s v1 v2 v3 L1 L
theorem NSt.step {g m m' : Nat} {w0 : World} {r s : Nat} {inp : Int} {v1 v2 v3 : Value} {ts : List (List Int)} {ns : List NodeD} {L1 L : List Value} {K : Nat → Prop} {wK : World} {A t : Nat} {kd : Int} {wx w' : World} (h : NSt g m w0 r s inp v1 v2 v3 ts ns L1 L K wK A t kd wx) (ht : g < t) (hA : g < A) (ho : Off (· = g) wx w') (hs : SrcAt w' g m') : NSt g m' w0 r s inp v1 v2 v3 ts ns L1 L K wK A t kd w' := by
  obtain ⟨x, u, h1, h2, h3, h4, h5, h6⟩ := h
  exact ⟨x, u, h1.off ho (by show ¬ t = g; omega), h2.keep fun b hb => ho.block b (h2.lt hb).2 (by have := (h2.lt hb).1; show b ≠ g; omega), h3, h4, h5.step ho hs, h6.step ho⟩
/-- all that the patch has lies below A -/
structure AOk (w0 wK : World) (g r s : Nat) (v1 v2 v3 : Value) (L1 L : List Value) (A : Nat) : Prop where
  s : s < A
  r : r < A
  g : g < A
  p : ∀ b, PBlk v1 v2 v3 L1 L b → b < A
  k : wK.heap.size ≤ A
  w : w0.heap.size ≤ A
section
variable {g m : Nat} {w0 : World} {r s : Nat} {inp : Int} {v1 v2 v3 : Value} {ts : List (List Int)} {ns : List NodeD} {L1 L : List Value} {K : Nat → Prop} {wK : World} {A t : Nat} {kd : Int} {wx w' : World}
theorem AOk.side (a : AOk w0 wK g r s v1 v2 v3 L1 L A) (hD : DB g m w0 wx r s inp v1 v2 v3 ts ns [] L1 L) (hK : DK K wK wx g s v1 v2 v3 L1 L) {S : Nat → Prop} (ho : Off S wx w') (hS : ∀ b, S b → A ≤ b) : DB g m w0 w' r s inp v1 v2 v3 ts ns [] L1 L ∧ DK K wK w' g s v1 v2 v3 L1 L := by
  refine ⟨hD.skip ho fun b hb => ⟨by have := a.w; have := hS b hb; omega, fun e => by have := a.s; have := hS b hb; omega, fun e => by have := a.r; have := hS b hb; omega, fun hp => by have := a.p b hp; have := hS b hb; omega⟩, hK.skip ho fun b hb hs => ?_⟩
  have := hK.lt b hb
  have := a.k
  have := hS b hs
  omega
theorem NSt.setA (h : NSt g m w0 r s inp v1 v2 v3 ts ns L1 L K wK A t kd wx) (a : AOk w0 wK g r s v1 v2 v3 L1 L A) (htA : A ≤ t) (n : Int) : NSt g m w0 r s inp v1 v2 v3 ts ns L1 L K wK A t kd (wx.setCell ⟨t, 1, none⟩ (.int .i64 n)) := by
  obtain ⟨x, u, h1, h2, h3, h4, h5, h6⟩ := h
  have n1 := h2.typD.notBoxD h1 (by decide)
  obtain ⟨h7, h8⟩ := a.side h5 h6 (Off.set1 (S := (· = t)) (w := wx) (i := 1) (.int .i64 n) rfl) fun b hb => by have : b = t := hb; omega
  exact ⟨⟨x.kind, n, x.b, x.src⟩, u, by simpa using h1.set 1 (.int .i64 n), h2.keep fun b hb => Below.heap_setCell _ _ _ _ (fun e => n1 (by rw [hb, show b = t from e])), h3, h4, h7, h8⟩
/-- another node is laid in the box -/
theorem NSt.lay (h : NSt g m w0 r s inp v1 v2 v3 ts ns L1 L K wK A t kd wx) (a : AOk w0 wK g r s v1 v2 v3 L1 L A) (htA : A ≤ t) {y : NodeD} {u' : Value} (hu : OwnI A wx u' y.src) (hk : y.kind = kd) (hl : (y.src.length : Int) = kAr (kd - 1).toNat) :
    NSt g m w0 r s inp v1 v2 v3 ts ns L1 L K wK A t kd ((((wx.setCell ⟨t, 0, none⟩ (.int .i64 y.kind)).setCell ⟨t, 1, none⟩ (.int .i64 y.a)).setCell ⟨t, 2, none⟩ (.int .i64 y.b)).setCell ⟨t, 3, none⟩ u') := by
  obtain ⟨x, u, h1, h2, h3, h4, h5, h6⟩ := h
  have n1 := hu.typD.notBoxD h1 (by decide)
  have hoff : Off (· = t) wx ((((wx.setCell ⟨t, 0, none⟩ (.int .i64 y.kind)).setCell ⟨t, 1, none⟩ (.int .i64 y.a)).setCell ⟨t, 2, none⟩ (.int .i64 y.b)).setCell ⟨t, 3, none⟩ u') :=
    (((Off.set1 (S := (· = t)) (w := wx) (i := 0) (.int .i64 y.kind) rfl).trans (Off.set1 (i := 1) (.int .i64 y.a) rfl)).trans (Off.set1 (i := 2) (.int .i64 y.b) rfl)).trans (Off.set1 (i := 3) u' rfl)
  obtain ⟨h7, h8⟩ := a.side h5 h6 hoff fun b hb => by have : b = t := hb; omega
  have b3 := (((h1.set 0 (.int .i64 y.kind)).set 1 (.int .i64 y.a)).set 2 (.int .i64 y.b)).set 3 u'
  exact ⟨y, u', by simpa using b3, hu.keep fun b hb => hoff.block b (hu.lt hb).2 (fun e => n1 (by rw [hb, show b = t from e])), hk, hl, h7, h8⟩
/-- one of the node's inputs is changed -/
theorem NSt.src (h : NSt g m w0 r s inp v1 v2 v3 ts ns L1 L K wK A t kd wx) (a : AOk w0 wK g r s v1 v2 v3 L1 L A) {b0 : Nat} (hb0 : A ≤ b0) {i : Nat} {v : Value} (hu : ∀ (x : NodeD) (u : Value), Box wx t [.int .i64 x.kind, .int .i64 x.a, .int .i64 x.b, u] 55 → OwnI A wx u x.src → b0 ≠ t ∧ ∃ ys, ys.length = x.src.length ∧ OwnI A (wx.setCell ⟨b0, i, none⟩ v) u ys) :
    NSt g m w0 r s inp v1 v2 v3 ts ns L1 L K wK A t kd (wx.setCell ⟨b0, i, none⟩ v) := by
  obtain ⟨x, u, h1, h2, h3, h4, h5, h6⟩ := h
  obtain ⟨hne, ys, hy, hu'⟩ := hu x u h1 h2
  obtain ⟨h7, h8⟩ := a.side h5 h6 (Off.set1 (S := (· = b0)) (w := wx) (i := i) v rfl) fun b hb => by have : b = b0 := hb; omega
  exact ⟨⟨x.kind, x.a, x.b, ys⟩, u, h1.other (a := ⟨b0, i, none⟩) (fun e => hne e.symm) v, hu', h3, by show (ys.length : Int) = _; rw [hy]; exact h4, h7, h8⟩
end
theorem l07Kinds_any (b : Bool) (w : World) :
    Calls Tryz.prog 99 #[.bool b] w fun e w' => ∃ u ks, e = .returned u ∧ (∀ k ∈ ks, 1 ≤ k ∧ k ≤ 17) ∧ 1 ≤ ks.length ∧ ks.length ≤ 20 ∧ OwnI w.heap.size w' u ks ∧ Below w.heap.size w w' := by
  cases b
  · have ho := OwnI.lit (B := w.heap.size) w [1, 2, 3, 4, 5, 6, 7, 8, 9, 10, 11, 12, 13, 14, 15, 16, 17, 1, 3, 6] (Nat.le_refl _) (by simp [maxLen])
    go_enter Tryz.func99, Tryz.ntmps99
    go_wp2_with fail
    go_ret
    exact ⟨_, [1, 2, 3, 4, 5, 6, 7, 8, 9, 10, 11, 12, 13, 14, 15, 16, 17, 1, 3, 6], rfl, by decide, by decide, by decide, ho, (Below.refl _ _).alloc (Nat.le_refl _) _⟩
  · have ho := OwnI.lit (B := w.heap.size) w [1, 3, 4, 5, 6, 7, 8, 17, 1, 5, 6] (Nat.le_refl _) (by simp [maxLen])
    go_enter Tryz.func99, Tryz.ntmps99
    go_wp2_with fail
    go_ret
    exact ⟨_, [1, 3, 4, 5, 6, 7, 8, 17, 1, 5, 6], rfl, by decide, by decide, by decide, ho, (Below.refl _ _).alloc (Nat.le_refl _) _⟩
set_option maxHeartbeats 16000000 in
set_option maxRecDepth 100000 in
theorem l07Draw_any {g m no : Nat} {inp most : Int} (lin : Bool) (w : World) (h : SrcAt w g m) (hi : 0 ≤ inp ∧ inp ≤ 100) (hno : no ≤ 100) (hmo : 1 ≤ most ∧ most ≤ 9) (hm : m + 20000 ≤ 1099511627776) :
    Calls Tryz.prog 58 #[.pointer (some ⟨g, 0, none⟩), .int .i64 inp, .int .i64 (no : Int), .int .i64 most, .bool lin] w (DrewQ g (m + 10000) inp no w) := by
  have hg := h.lt
  obtain ⟨r, hr⟩ : ∃ r, r = w.heap.size := ⟨_, rfl⟩
  obtain ⟨s, hs⟩ : ∃ s, s = w.heap.size + 1 + 1 := ⟨_, rfl⟩
  obtain ⟨E, hE⟩ : ∃ E, E = ((w.alloc (.cells zPatch.toArray 28)).alloc (.cells #[] 2)).alloc (.cells #[.int .i64 inp, .slice none 0 0, .slice none 0 0, .slice (some ⟨w.heap.size + 1, 0, none⟩) 0 0] 28) := ⟨_, rfl⟩
  have hB0 : Below w.heap.size w E := by rw [hE]; exact (((Below.refl _ _).alloc (Nat.le_refl _) _).alloc (by simp) _).alloc (by simp; omega) _
  have HDB : Hid (DB g m w E r s inp (.slice none 0 0) (.slice none 0 0) (.slice (some ⟨r + 1, 0, none⟩) 0 0) [] [] [] [] []) := by
    have o3 : OwnI w.heap.size (((w.alloc (.cells zPatch.toArray 28)).alloc (.cells #[] 2))) (.slice (some ⟨w.heap.size + 1, 0, none⟩) 0 0) [] := by
      have := OwnI.lit (B := w.heap.size) (w.alloc (.cells zPatch.toArray 28)) [] (by simp) (by simp [maxLen])
      simpa using this
    refine ⟨?_, ?_, ?_, Off.of_below _ hB0, h.below hB0, by omega, by omega, by omega, hg⟩
    · rw [hr, hE]; exact OwnP.nil _ (o3.below ((Below.refl _ _).alloc (Nat.le_refl _) _))
    · rw [hE, hs, hr]; exact Box.newAt _ [.int .i64 inp, .slice none 0 0, .slice none 0 0, .slice (some ⟨w.heap.size + 1, 0, none⟩) 0 0] _ (by simp)
    · rw [hE, hr]; exact ((Box.newAt w zPatch _ rfl).alloc _).alloc _
  have HE := Lib.hid hE
  have HR := Lib.hid hr
  have HS := Lib.hid hs
  clear hE hr hs h hB0
  go_enter Tryz.func58, Tryz.ntmps58
  go_upto_region 2 with fail
  rw [← HE.out, ← HS.out, ← HR.out]
  go_upto_if 25 with fail
  go_cut [11] (fun s11 wr => ∃ (v1 : Value) (ts : List (List Int)) (L1 : List Value), s11 = .pointer (some ⟨s, 0, none⟩) ∧ (ts.length ≤ 2 ∧ ∀ t ∈ ts, t.length ≤ 8) ∧ DB g (m + 1000) w wr r s inp v1 (.slice none 0 0) (.slice (some ⟨r + 1, 0, none⟩) 0 0) ts [] [] L1 [])
  case first =>
    cases lin
    · have hD := HDB.out
      have DT := Lib.hid (l06DrawTables_any E hD.src (by omega))
      have hgE := hD.src.lt
      have hwE := hD.off.size
      go_wp2_with (first | (go_at_call 98; refine DT.out.mono ?_; rintro e w1 ⟨vt, xss, LT, rfl, x1, x2, x3, ho, hs1, ho1⟩; have hD1 := hD.step ho1 hs1; have c1 := hD1.out.cell 1 rfl; have f1 := hD1.out.frozen 1; have lt1 := hD1.out.lt; obtain ⟨pt, ct, rfl, -⟩ := ho.rd) | fail)
      go_meet
      refine ⟨_, xss, LT, rfl, ⟨x2, x3⟩, (hD1.tables (ho.mono hwE) fun b hb hb' => ?_).mono (by omega)⟩
      have h1 := (ho.2.1.blk hb).1
      have h2 := (hD.own.blk (b := b) (by simpa using hb')).2
      omega
    · go_wp2_with fail
      go_meet
      exact ⟨_, [], [], rfl, ⟨by simp, by simp⟩, HDB.out.mono (by omega)⟩
  case rest =>
    obtain ⟨v1, ts, L1, rfl, hts, hD⟩ := hcut
    obtain ⟨W0, rfl⟩ : ∃ W : World, W = wc := ⟨_, rfl⟩
    have KD := Lib.hid (l07Kinds_any lin W0)
    have hgw : g < w.heap.size := hg
    have hwW := hD.off.size
    go_wp2_with (first | (go_at_call 99; refine KD.out.mono ?_; rintro e w1 ⟨uk, ks, rfl, hk1, hk2, hk3, hks, hb1⟩; obtain ⟨pk, ck, rfl, -⟩ := hks.rd; have hD1 := hD.below hb1) | (go_at_call 33; refine (pick_any most w1 hD1.src (by omega) (by omega)).mono ?_; rintro e w2 ⟨n0, hn0, rfl, hs2, ho2⟩; obtain ⟨hn1, hn2⟩ := pickP_pos hn0 (by omega); have hD2 := hD1.step ho2 hs2) | fail)
    obtain ⟨p1, c1, rfl⟩ := hD2.own.o1.sl'
    have hLN : LpN g m w r s inp (.slice p1 L1.length c1) (.slice (some ⟨r + 1, 0, none⟩) 0 0) ts L1 (fun b => (Value.slice pk ks.length ck).ownBlock = some b) w1 w2 [] (.slice none 0 0) [] := by
      refine ⟨hD2.mono (by simp), ⟨fun b hb => ho2.block b (hks.lt hb).2 (by have := (hks.lt hb).1; show b ≠ g; omega), fun b hb => (hks.lt hb).2, fun b hb => ?_, ho2.size⟩, fun nd hnd => by simp at hnd⟩
      have h1 := hks.lt hb
      refine ⟨by omega, by have := hD.out.lt; omega, fun hp => by have := (hD.own.pblk hp).2; omega⟩
    have HKS := Lib.hid hks
    clear hD hD1 hD2 hks hn0 hs2 ho2 hb1 HDB KD
    go_loopw [13] (fun i wr => ∃ (j : Int) (ns : List NodeD) (v2 : Value) (L : List Value), i = .int .i64 j ∧ 0 ≤ j ∧ (ns.length : Int) + j = 1 + n0 ∧ LpN g m w r s inp (.slice p1 L1.length c1) (.slice (some ⟨r + 1, 0, none⟩) 0 0) ts L1 (fun b => (Value.slice pk ks.length ck).ownBlock = some b) w1 wr ns v2 L) (fun i _ => (intOf i).toNat)
    case atStart => exact ⟨1 + n0, [], _, [], rfl, by omega, by simp, hLN⟩
    case round =>
      obtain ⟨j, ns, v2, L, rfl, hj, hjl, hD, hK, hko⟩ := hrel
      obtain ⟨W0, rfl⟩ : ∃ W : World, W = wr := ⟨_, rfl⟩
      clear hLN
      obtain ⟨p2, c2, rfl⟩ := hD.own.o2.sl
      by_cases hlt : 0 < j
      · have z2 := hD.out.cell 2 rfl
        have hksI := HKS.out.keep (w' := W0) fun b hb => hK.same b hb
        have hksW : RdI W0 pk ks := by
          obtain ⟨p', c', e', hr'⟩ := hksI.rd
          obtain ⟨rfl, -, rfl⟩ := (Value.slice.injEq _ _ _ _ _ _).mp e'
          exact hr'
        have AM := Lib.hid (among_any (c := ck) W0 hD.src hksW (fun b o hb => (hK.ne b (by rw [hb]; rfl)).1) (by omega) (by omega) (by omega))
        have AR : Hid (∀ W kd, 1 ≤ kd → kd ≤ 17 → Calls Tryz.prog 63 #[.int .i64 kd] W fun e w' => e = .returned (.int .i64 (kAr (kd - 1).toNat)) ∧ Below W.heap.size W w') := fun W kd h1 h2 => by
          have := l06Arity_any (kd - 1).toNat (by omega) W
          rw [show (((kd - 1).toNat : Nat) : Int) + 1 = kd by omega] at this
          exact this
        clear hksI hksW
        go_upto_region 10 with (first | (go_at_call 35; refine AM.out.mono ?_; rintro e W1 ⟨kd, hkd, rfl, hs1, ho1⟩; obtain ⟨q1, q2⟩ := hk1 kd hkd) | fail)
        have hD1 := hD.step ho1 hs1
        have hK1 := hK.step ho1
        have ARK := Lib.hid (fun W => AR.out W kd q1 q2)
        clear hkd hs1 ho1 AM z2 hD hK
        go_cut [59] (fun s59 wx => ∃ b, s59 = .bool b ∧ Below W1.heap.size W1 wx)
        case first =>
          clear hD1 hK1
          generalize kAr (kd - 1).toNat = ar at ARK
          cases e1 : (kd == 1) <;> cases e2 : (inp == 0) <;> cases e3 : ((ns.length : Int) == 0) <;> by_cases e4 : 0 < ar
          all_goals
            go_wp2_with (first | (go_at_call 63; refine (ARK.out _).mono ?_; rintro e W2 ⟨rfl, hb2⟩) | fail)
            go_meet
            first
              | exact ⟨_, rfl, Below.refl _ _⟩
              | exact ⟨_, rfl, hb2⟩
        case rest =>
        obtain ⟨bb, rfl, hbW⟩ := hcut
        obtain ⟨Wa, rfl⟩ : ∃ W : World, W = wc := ⟨_, rfl⟩
        have hD2 := hD1.below hbW
        have hK2 := hK1.below hbW
        clear ARK hD1 hK1
        go_upto_if 59 with fail
        go_cut [15] (fun s15 wx => ∃ kd : Int, s15 = .int .i64 kd ∧ 1 ≤ kd ∧ kd ≤ 17 ∧ wx = Wa)
        case first =>
          cases bb <;> cases lin
          all_goals
            go_wp2_with fail
            go_meet
            first
              | exact ⟨_, rfl, q1, q2, rfl⟩
              | exact ⟨_, rfl, by omega, by omega, rfl⟩
              | exact ⟨_, rfl, by omega, by omega, trivial⟩
              | exact ⟨_, rfl, q1, q2, trivial⟩
        case rest =>
        clear q1 q2
        obtain ⟨ke, rfl, q1, q2, hwx⟩ := hcut
        subst hwx
        obtain ⟨Wn, rfl⟩ : ∃ W : World, W = wc := ⟨_, rfl⟩
        have hl1 : L1.length ≤ 2 := by have := hD2.own.s1.1; omega
        have hns9 : ns.length ≤ 9 := by omega
        have DX := Lib.hid (l06DrawX_any ke (L1.length : Int) (ns.length : Int) Wn hD2.src ⟨q1, q2⟩ (by omega) (by omega) (by omega))
        have z1 := hD2.out.cell 1 rfl
        have hPA : Hid (∀ b, PBlk (.slice p1 L1.length c1) (.slice p2 ns.length c2) (.slice (some ⟨r + 1, 0, none⟩) 0 0) L1 L b → b < Wn.heap.size) := fun b hb => (hD2.own.pblk hb).2
        have hsA := hD2.out.lt
        have hrA := hD2.res.lt
        have hgA := hD2.src.lt
        go_upto_region 15 with (first | (go_at_call 34; refine DX.out.mono ?_; rintro e W3 ⟨xn, ux, rfl, hxk, hxl, hou, hs3, ho3⟩; have HXK := Lib.hid hxk; have HXL := Lib.hid hxl; clear hxk hxl; obtain ⟨pu, cu, rfl, -⟩ := hou.rd) | fail)
        obtain ⟨t, ht⟩ : ∃ t, t = W3.heap.size := ⟨_, rfl⟩
        obtain ⟨F, hF⟩ : ∃ F, F = W3.alloc (.cells #[.int .i64 xn.kind, .int .i64 xn.a, .int .i64 xn.b, .slice pu xn.src.length cu] 55) := ⟨_, rfl⟩
        have hbF : Below W3.heap.size W3 F := by rw [hF]; exact (Below.refl _ _).alloc (Nat.le_refl _) _
        have btx : Box F t [.int .i64 xn.kind, .int .i64 xn.a, .int .i64 xn.b, .slice pu xn.src.length cu] 55 := by rw [hF]; exact Box.newAt W3 [.int .i64 xn.kind, .int .i64 xn.a, .int .i64 xn.b, .slice pu xn.src.length cu] _ ht
        rw [← hF, ← ht]
        have htA : Wn.heap.size ≤ t := by rw [ht]; exact ho3.size
        have hN : NSt g (m + 1010 + 450 * ns.length + 202) w r s inp (.slice p1 L1.length c1) (.slice p2 ns.length c2) (.slice (some ⟨r + 1, 0, none⟩) 0 0) ts ns L1 L (fun b => (Value.slice pk ks.length ck).ownBlock = some b) w1 Wn.heap.size t ke F :=
          ⟨xn, _, btx, hou.below hbF, HXK.out, HXL.out, ((hD2.step ho3 hs3).below hbF), ((hK2.step ho3).below hbF)⟩
        have HAO : Hid (AOk w w1 g r s (.slice p1 L1.length c1) (.slice p2 ns.length c2) (.slice (some ⟨r + 1, 0, none⟩) 0 0) L1 L Wn.heap.size) := ⟨hsA, hrA, hgA, hPA.out, hK2.sz, hD2.off.size⟩
        clear hF ht hbF btx hou hs3 ho3 DX z1 hD2 hK2 HXK HXL hPA
        go_upto_if 69 with fail
        go_cut [16] (fun s16 wx => s16 = .pointer (some ⟨t, 0, none⟩) ∧ NSt g (m + 1010 + 450 * ns.length + 204) w r s inp (.slice p1 L1.length c1) (.slice p2 ns.length c2) (.slice (some ⟨r + 1, 0, none⟩) 0 0) ts ns L1 L (fun b => (Value.slice pk ks.length ck).ownBlock = some b) w1 Wn.heap.size t ke wx)
        case first =>
          cases e1 : (ke == 1)
          · go_wp2_with fail
            go_meet
            exact ⟨rfl, hN.step (by omega) hgA (Off.refl _ _) (by obtain ⟨_, _, _, _, _, _, h5, _⟩ := hN; exact h5.src.mono (by omega))⟩
          · obtain ⟨x, u, h1, h2, h3, h4, h5, h6⟩ := id hN
            have PK := Lib.hid (pick_any inp F h5.src (by omega) (by omega))
            clear h1 h2 h3 h4 h5 h6
            go_wp2_with (first | (go_at_call 33; refine PK.out.mono ?_; rintro e W4 ⟨y, -, rfl, hs4, ho4⟩; have hN4 := hN.step (by omega) hgA ho4 hs4; obtain ⟨x4, u4, h1, -⟩ := id hN4; have c1 := h1.cell 1 rfl; have f1 := h1.frozen 1; have l1' := h1.lt) | fail)
            go_meet
            exact ⟨rfl, hN4.setA HAO.out htA y⟩
        case rest =>
        obtain ⟨rfl, hN2⟩ := hcut
        obtain ⟨Wb, rfl⟩ : ∃ W : World, W = wc := ⟨_, rfl⟩
        go_upto_region 17 with fail
        go_cut [87] (fun s87 wx => ∃ b, s87 = .bool b ∧ NSt g (m + 1010 + 450 * ns.length + 206) w r s inp (.slice p1 L1.length c1) (.slice p2 ns.length c2) (.slice (some ⟨r + 1, 0, none⟩) 0 0) ts ns L1 L (fun b => (Value.slice pk ks.length ck).ownBlock = some b) w1 Wn.heap.size t ke wx)
        case first =>
          obtain ⟨x, u, h1, h2, h3, h4, h5, h6⟩ := id hN2
          have ON := Lib.hid (one_any 3 Wb h5.src (by omega) (by omega))
          clear h1 h2 h3 h4 h5 h6
          cases e1 : (ke != 1) <;> cases e2 : (ke != 2) <;> by_cases e3 : 0 < ns.length
          all_goals
            go_wp2_with (first | (go_at_call 59; refine ON.out.mono ?_; rintro e W5 ⟨bo, rfl, hs5, ho5⟩; have hN5 := hN2.step (by omega) hgA ho5 hs5; cases bo) | fail)
            all_goals
              go_wp2_with fail
              go_meet
              exact ⟨_, rfl, hN5⟩
        case rest =>
        obtain ⟨b17, rfl, hN3⟩ := hcut
        obtain ⟨Wx, rfl⟩ : ∃ W : World, W = wc := ⟨_, rfl⟩
        clear hN2 hN
        go_upto_if 87 with fail
        go_cut [16] (fun s16 wx => s16 = .pointer (some ⟨t, 0, none⟩) ∧ NSt g (m + 1010 + 450 * ns.length + 430) w r s inp (.slice p1 L1.length c1) (.slice p2 ns.length c2) (.slice (some ⟨r + 1, 0, none⟩) 0 0) ts ns L1 L (fun b => (Value.slice pk ks.length ck).ownBlock = some b) w1 Wn.heap.size t ke wx)
        case first =>
          cases b17
          · go_wp2_with fail
            go_meet
            exact ⟨rfl, hN3.step (by omega) hgA (Off.refl _ _) (by obtain ⟨_, _, _, _, _, _, h5, _⟩ := hN3; exact h5.src.mono (by omega))⟩
          · obtain ⟨x, u, h1, h2, h3, h4, h5, h6⟩ := id hN3
            have DX2 := Lib.hid (l06DrawX_any ke (L1.length : Int) 1 Wx h5.src ⟨q1, q2⟩ (by omega) (by omega) (by omega))
            have z1 := h5.out.cell 1 rfl
            have hAx : Wn.heap.size ≤ Wx.heap.size := by have := h1.lt; omega
            clear h1 h2 h3 h4 h5 h6
            go_upto_region 19 with (first | (go_at_call 34; refine DX2.out.mono ?_; rintro e W6 ⟨y, uy, rfl, hyk, hyl, hoy, hs6, ho6⟩; have HYK := Lib.hid hyk; have HYL := Lib.hid hyl; clear hyk hyl; obtain ⟨py, cy, rfl, -⟩ := hoy.rd; have hN6 := hN3.step (by omega) hgA ho6 hs6; obtain ⟨x6, u6, b6, -⟩ := id hN6; have y0 := b6.cell 0 rfl; have y1 := b6.cell 1 rfl; have y2 := b6.cell 2 rfl; have y3 := b6.cell 3 rfl; have g0 := b6.frozen 0; have g1 := b6.frozen 1; have g2 := b6.frozen 2; have g3 := b6.frozen 3; have bl6 := b6.lt) | fail)
            have hN7 := hN6.lay HAO.out htA (hoy.mono hAx) HYK.out HYL.out
            clear y0 y1 y2 y3 g0 g1 g2 g3 b6 hN6 hoy hs6 ho6 z1 DX2
            generalize (((W6.setCell ⟨t, 0, none⟩ (.int .i64 y.kind)).setCell ⟨t, 1, none⟩ (.int .i64 y.a)).setCell ⟨t, 2, none⟩ (.int .i64 y.b)).setCell ⟨t, 3, none⟩ (.slice py y.src.length cy) = W7 at *
            clear bl6 HYK HYL
            go_wp2_with fail
            go_loopw [17] (fun i wr => ∃ k : Nat, i = .int .i64 (k : Int) ∧ (k : Int) ≤ kAr (ke - 1).toNat ∧ NSt g (m + 1010 + 450 * ns.length + 410 + 2 * k) w r s inp (.slice p1 L1.length c1) (.slice p2 ns.length c2) (.slice (some ⟨r + 1, 0, none⟩) 0 0) ts ns L1 L (fun b => (Value.slice pk ks.length ck).ownBlock = some b) w1 Wn.heap.size t ke wr) (fun i _ => (3 - intOf i).toNat)
            case atStart => exact ⟨0, rfl, by (obtain ⟨x7, _, _, _, _, h7, _⟩ := hN7; omega), hN7.step (by omega) hgA (Off.refl _ _) (by obtain ⟨_, _, _, _, _, _, h5, _⟩ := hN7; exact h5.src.mono (by omega))⟩
            case round =>
              obtain ⟨k, rfl, hk3, hNk⟩ := hrel
              clear hN7 hN3
              obtain ⟨Wk, rfl⟩ : ∃ W : World, W = wr := ⟨_, rfl⟩
              obtain ⟨x, u, h1, h2, h3, h4, h5, h6⟩ := id hNk
              obtain ⟨qu, cu2, rfl, hru⟩ := h2.rd
              have z3 := h1.cell 3 rfl
              have har : (x.src.length : Int) ≤ 3 := by
                rw [h4]
                have := kinds_of (k := ke) (by simp [inB]; omega)
                rcases this with rfl | rfl | rfl | rfl | rfl | rfl | rfl | rfl | rfl | rfl | rfl | rfl | rfl | rfl | rfl | rfl | rfl
                all_goals decide
              have H4 := Lib.hid h4
              have hke : k ≤ x.src.length := by omega
              clear h4
              by_cases hkl : k < x.src.length
              · rcases h2.cases with ⟨-, h00⟩ | ⟨b0, cu3, e3, -, -, -, -⟩
                · rw [h00] at hkl; simp at hkl
                obtain ⟨rfl, -, -⟩ := (Value.slice.injEq _ _ _ _ _ _).mp e3
                clear e3
                obtain ⟨-, hB0, hB0l, -, -, -⟩ := h2.storing hkl
                have hnt : b0 ≠ t := fun e => h2.typD.notBoxD h1 (by decide) (by rw [e]; rfl)
                have hbd := belowDrewD Wk
                have PK2 := Lib.hid (pick_any 2 Wk.drew (h5.src.below hbd) (by omega) (by omega))
                have CKt : Hid (∀ W, Off (· = g) Wk W → W.cell? ⟨t, 3, none⟩ = some (.slice (some ⟨b0, 0, none⟩) x.src.length cu2)) := fun W hW => (h1.off hW (by show ¬ t = g; omega)).cell 3 rfl
                go_upto_region 22 with fail
                refine wp_region_plan (fun W => W.cell? ⟨t, 3, none⟩ = some (.slice (some ⟨b0, 0, none⟩) x.src.length cu2)) 10 [(0, 0), (1, 1), (2, 0), (3, 0), (4, 0), (5, 0), (6, 2), (7, 0), (8, 2), (9, 0), (10, 3)] (by kernel_rfl) (by kernel_rfl) (CKt.out _ (Off.of_below _ hbd)) ?_
                repeat ((first | refine wpPlan_take (v := ?_) rfl (by rfl) (by (intro w hSw; clear hSw; go_simp; try with_reducible rfl)) (fun _ _ _ h => h) ?_ | refine wpPlan_load (v := ?_) rfl (by rfl) (by (intro w hSw; (try dsimp only at hSw); go_simp; try with_reducible rfl)) (fun _ _ _ h => h) ?_); try simp only [List.getElem_toArray, List.getElem_cons_succ, List.getElem_cons_zero, Act.put, List.setIfInBounds_toArray, List.set_cons_zero, List.set_cons_succ])
                refine wpPlan_call rfl (by rfl) (fun K hK => ?_)
                go_simp
                refine PK2.out.mono ?_; rintro e W8 ⟨y2, hy2, rfl, hs8, ho8⟩; obtain ⟨hp1, hp2⟩ := pickP_pos hy2 (by omega); have ho8' : Off (· = g) Wk W8 := (Off.of_below _ hbd).trans ho8
                refine hK _ _ (CKt.out _ ho8') ?_
                clear hK K
                try simp only [Act.put, List.setIfInBounds_toArray, List.set_cons_zero, List.set_cons_succ]
                repeat ((first | refine wpPlan_take (v := ?_) rfl (by rfl) (by (intro w hSw; clear hSw; go_simp; try with_reducible rfl)) (fun _ _ _ h => h) ?_ | refine wpPlan_load (v := ?_) rfl (by rfl) (by (intro w hSw; (try dsimp only at hSw); go_simp; try with_reducible rfl)) (fun _ _ _ h => h) ?_); try simp only [List.getElem_toArray, List.getElem_cons_succ, List.getElem_cons_zero, Act.put, List.setIfInBounds_toArray, List.set_cons_zero, List.set_cons_succ])
                refine wpPlan_call rfl (by rfl) (fun K hK => ?_)
                go_simp
                refine (l00Max_any _ _ _).mono ?_; rintro e W9 ⟨rfl, hw9⟩; obtain rfl := hw9
                refine hK _ _ (CKt.out _ ho8') ?_
                clear hK K
                try simp only [Act.put, List.setIfInBounds_toArray, List.set_cons_zero, List.set_cons_succ]
                have h2' : OwnI Wn.heap.size W8 (.slice (some ⟨b0, 0, none⟩) x.src.length cu2) x.src := h2.keep fun b hb => ho8'.block b (h2.lt hb).2 (by have := (h2.lt hb).1; show b ≠ g; omega)
                obtain ⟨-, -, hl8, hc8, hf8, hset8⟩ := h2'.storing hkl
                repeat ((first | refine wpPlan_take (v := ?_) rfl (by rfl) (by (intro w hSw; clear hSw; go_simp; try with_reducible rfl)) (fun _ _ _ h => h) ?_ | refine wpPlan_load (v := ?_) rfl (by rfl) (by (intro w hSw; (try dsimp only at hSw); go_simp; try with_reducible rfl)) (fun _ _ _ h => h) ?_); try simp only [List.getElem_toArray, List.getElem_cons_succ, List.getElem_cons_zero, Act.put, List.setIfInBounds_toArray, List.set_cons_zero, List.set_cons_succ])
                refine wpPlan_store rfl (by rfl) (fun K hK => ?_)
                go_simp
                refine hK _ _ ?_
                clear hK K
                try simp only [Act.put, List.setIfInBounds_toArray, List.set_cons_zero, List.set_cons_succ]
                refine wpPlan_nil ?_
                have NST : Hid (∀ v : Int, NSt g (m + 1010 + 450 * ns.length + 410 + 2 * (k + 1)) w r s inp (.slice p1 L1.length c1) (.slice p2 ns.length c2) (.slice (some ⟨r + 1, 0, none⟩) 0 0) ts ns L1 L (fun b => (Value.slice pk ks.length ck).ownBlock = some b) w1 Wn.heap.size t ke (W8.setCell ⟨b0, k, none⟩ (.int .i64 v))) := fun v => by
                  obtain ⟨h7, h8⟩ := HAO.out.side ((h5.step ho8' hs8).mono (m' := m + 1010 + 450 * ns.length + 410 + 2 * (k + 1)) (by omega)) (h6.step ho8') (Off.set1 (S := (· = b0)) (w := W8) (i := k) (.int .i64 v) rfl) fun b hb => by have : b = b0 := hb; omega
                  exact ⟨⟨x.kind, x.a, x.b, x.src.set k v⟩, .slice (some ⟨b0, 0, none⟩) x.src.length cu2, (h1.off ho8' (by show ¬ t = g; omega)).other (a := ⟨b0, k, none⟩) (fun e => hnt e.symm) _, hset8 v, h3, by show ((x.src.set k v).length : Int) = _; rw [List.length_set]; exact H4.out, h7, h8⟩
                go_wp2_with fail
                go_roundw
                case rel => exact ⟨k + 1, by go_num, by have := H4.out; omega, NST.out _⟩
                case measure => simp [intOf] <;> omega
              · obtain rfl : k = x.src.length := by omega
                go_wp2_with fail
                go_meet
                exact ⟨rfl, hNk.step (by omega) hgA (Off.refl _ _) (h5.src.mono (by omega))⟩
        case rest =>
        obtain ⟨rfl, hN8⟩ := hcut
        obtain ⟨Wz, rfl⟩ : ∃ W : World, W = wc := ⟨_, rfl⟩
        clear hN3
        obtain ⟨x, u, h1, h2, h3, h4, h5, h6⟩ := hN8
        obtain ⟨qu, cu2, rfl, -⟩ := h2.rd
        have HX3 := Lib.hid h3
        have HX4 := Lib.hid h4
        clear h3 h4
        have y0 := h1.cell 0 rfl
        have y1 := h1.cell 1 rfl
        have y2 := h1.cell 2 rfl
        have y3 := h1.cell 3 rfl
        have z2 := h5.out.cell 2 rfl
        have hwz : w.heap.size ≤ Wz.heap.size := h5.off.size
        have hlL : ns.length < 1099511627776 := by omega
        have hu0 := h2.mono HAO.out.w
        have hnew : ∀ b, (Value.slice qu x.src.length cu2).ownBlock = some b → ¬ Blk (L1 ++ (L ++ [.slice (some ⟨r + 1, 0, none⟩) 0 0])) b := fun b hb hbk => by
          have e1 := (h2.lt hb).1
          have e2 := HAO.out.p b (.inr (.inr hbk))
          omega
        have hsl5 := h5.out.lt
        have htl5 := h1.lt
        go_wp2_with (first | (at_builtin; refine wpList_append_node rfl _ _ rfl x rfl rfl rfl rfl h5.own.o2 rfl rfl hlL hwz ?_; intro v' W9 hv hg9 hk9; obtain ⟨vp, vc, rfl⟩ := hv.slS; have PN := h5.node hu0 hnew hv hg9; have c2' := PN.1.1; have f2' := PN.1.2) | fail)
        have ksW9 := HKS.out.keep (w' := W9) fun b hb => (hk9 b (Nat.lt_of_lt_of_le (h6.lt b hb) h6.sz) (fun e => (h6.ne b hb).2.2 (.inr (.inl e)))).trans (h6.same b hb)
        have hDK := h6.upd (w' := W9.setCell ⟨s, 2, none⟩ (.slice vp (ns.length + 1) vc)) (v1' := .slice p1 L1.length c1) (v2' := .slice vp (ns.length + 1) vc) (v3' := .slice (some ⟨r + 1, 0, none⟩) 0 0) (L1' := L1) (L' := L ++ [.slice qu x.src.length cu2]) ⟨hg9.os, hg9.tape, hg9.output, by have := hg9.size; simpa [World.setCell] using this, fun k hk hne => (Below.heap_setCell _ _ _ _ (show k ≠ s from fun e => hne (.inl e))).trans (hk9 k hk fun e => hne (.inr (.inr (.inl e))))⟩ (fun b hKb hp => by
          rcases hp with hp | hp | hp
          · exact .inl (.inl hp)
          · exact absurd hKb ((Typed.of hv.2).ne (Typed.of ksW9) (by decide) hp)
          · rcases blk_append.1 hp with hp | hp
            · exact .inl (.inr (.inr (blk_append.2 (.inl hp))))
            · rcases blk_append.1 hp with hp | hp
              · rcases blk_append.1 hp with hp | hp
                · exact .inl (.inr (.inr (blk_append.2 (.inr (blk_append.2 (.inl hp))))))
                · right
                  have e1 := (h2.lt (Blk.one.1 hp)).1
                  have e2 := HAO.out.k
                  omega
              · exact .inl (.inr (.inr (blk_append.2 (.inr (blk_append.2 (.inr hp)))))))
        have hKO : KOk (ns ++ [x]) := fun nd hnd => by
          rcases List.mem_append.1 hnd with h | h
          · exact hko nd h
          · rw [List.mem_singleton.1 h]
            have e3 := HX3.out
            have e4 := HX4.out
            have hkA : kAr (ke - 1).toNat ≤ 3 ∧ (ke = 6 → kAr (ke - 1).toNat = 1) := by
              have := kinds_of (k := ke) (by simp [inB]; omega)
              clear e3 e4 HX3 HX4
              rcases this with h | h | h | h | h | h | h | h | h | h | h | h | h | h | h | h | h <;> rw [h] <;> decide
            exact ⟨by omega, fun e => by have := hkA.2 (by omega); omega⟩
        have hLP : LpN g m w r s inp (.slice p1 L1.length c1) (.slice (some ⟨r + 1, 0, none⟩) 0 0) ts L1 (fun b => (Value.slice pk ks.length ck).ownBlock = some b) w1 (W9.setCell ⟨s, 2, none⟩ (.slice vp (ns.length + 1) vc)) (ns ++ [x]) (.slice vp (ns.length + 1) vc) (L ++ [.slice qu x.src.length cu2]) :=
          ⟨PN.2.mono (by simp; omega), hDK, hKO⟩
        clear y0 y1 y2 y3 z2 c2' f2' PN hDK ksW9 hv hg9 hk9
        go_roundw
        case rel => exact ⟨j - 1, ns ++ [x], _, _, by go_num, by omega, by simp; omega, hLP⟩
        case measure => simp [intOf] <;> omega
      · obtain rfl : j = 0 := by omega
        have hD0 := hD.mono (m' := m + 6000) (by omega)
        have hns : 1 ≤ ns.length ∧ ns.length ≤ 9 := by omega
        have z2 := hD0.out.cell 2 rfl
        clear hK HKS hD
        go_wp2_with fail
        go_loopw [19] (fun i wr => ∃ (k : Nat) (ns' : List NodeD), i = .int .i64 (k : Int) ∧ k ≤ ns.length ∧ ns'.length = ns.length ∧ KOk ns' ∧ DB g (m + 6000 + 4 * k) w wr r s inp (.slice p1 L1.length c1) (.slice p2 ns.length c2) (.slice (some ⟨r + 1, 0, none⟩) 0 0) ts ns' [] L1 L) (fun i _ => ns.length - (intOf i).toNat)
        case atStart => exact ⟨0, ns, rfl, by omega, rfl, hko, hD0⟩
        case round =>
          obtain ⟨k, ns', rfl, hk, hnl, hko', hDk⟩ := hrel
          clear hD0 z2 hko
          obtain ⟨Wk, rfl⟩ : ∃ W : World, W = wr := ⟨_, rfl⟩
          have HNL := Lib.hid hnl
          by_cases hkn : k < ns.length
          · have hkn' : k < ns'.length := by omega
            have hkL : k < L.length := by rw [hDk.own.o2.1]; exact hkn'
            obtain ⟨g2, cap2, e2, hB2, hl2, hm2, hc2⟩ : ∃ g2 cap2, (Value.slice p2 ns.length c2) = .slice (some ⟨g2, 0, none⟩) ns'.length cap2 ∧ w.heap.size ≤ g2 ∧ g2 < Wk.heap.size ∧ True ∧ (Wk.cell? ⟨g2, k * 4, none⟩ = some (.int .i64 ns'[k].kind) ∧ Wk.cell? ⟨g2, k * 4 + 3, none⟩ = some L[k]) := by
              rcases hDk.own.o2.cases with ⟨-, h0, -⟩ | ⟨g2, cap2, e, hB, hlt, _, hc⟩
              · exfalso; rw [h0] at hkn'; simp at hkn'
              · obtain ⟨d0, d1, d2, d3⟩ := hc k hkn' hkL
                exact ⟨g2, cap2, e, hB, hlt, trivial, d0, d3⟩
            obtain ⟨rfl, -, rfl⟩ := (Value.slice.injEq _ _ _ _ _ _).mp e2
            obtain ⟨d0, d3⟩ := hc2
            have z2 := hDk.out.cell 2 rfl
            clear e2 hnl
            obtain ⟨kk, hkk⟩ : ∃ kk, kk = ns'[k].kind := ⟨_, rfl⟩
            rw [← hkk] at d0
            have HKK := Lib.hid hkk
            clear hkk
            have ON := Lib.hid (one_any 2 Wk hDk.src (by omega) (by omega))
            go_upto_region 28 with fail
            go_cut [135] (fun s135 wx => ∃ b, s135 = .bool b ∧ (b = true → kk = 6) ∧ DB g (m + 6000 + 4 * k + 2) w wx r s inp (.slice p1 L1.length c1) (.slice (some ⟨g2, 0, none⟩) ns.length c2) (.slice (some ⟨r + 1, 0, none⟩) 0 0) ts ns' [] L1 L)
            case first =>
              cases e1 : (kk == 6)
              · go_wp2_with fail
                go_meet
                exact ⟨false, rfl, by simp, hDk.mono (by omega)⟩
              · have e6 : Hid (kk = 6) := by unfold Hid; simpa using e1
                go_wp2_with (first | (go_at_call 59; refine ON.out.mono ?_; rintro e W5 ⟨bo, rfl, hs5, ho5⟩; have hD5 := hDk.step ho5 hs5) | fail)
                all_goals
                  go_meet
                  exact ⟨_, rfl, fun _ => e6.out, hD5⟩
            case rest =>
            obtain ⟨b28, rfl, hb6, hD28⟩ := hcut
            obtain ⟨Wy, rfl⟩ : ∃ W : World, W = wc := ⟨_, rfl⟩
            clear hDk d0 d3 z2 ON
            cases b28
            · go_wp2_with fail
              go_roundw
              case rel => exact ⟨k + 1, ns', by go_num, by omega, HNL.out, hko', hD28.mono (by omega)⟩
              case measure => simp [intOf] <;> omega
            · have hk6 : ns'[k].kind = 6 := HKK.out.symm.trans (hb6 rfl)
              obtain ⟨hs4, hs1⟩ := hko' ns'[k] (List.getElem_mem hkn')
              have hsrc := hs1 hk6
              obtain ⟨hL, ou⟩ := hD28.own.s2.at_ (i := k) (by rw [List.length_map]; exact hkn')
              rw [List.getElem_map] at ou
              have HO8 : Hid (∀ W, Off (· = g) Wy W → OwnI w.heap.size W L[k] ns'[k].src) := fun W hW => ou.keep fun b hb => hW.block b (ou.lt hb).2 (by have := (ou.lt hb).1; have := hD28.hg; show b ≠ g; omega)
              obtain ⟨b0, c0, e0⟩ : ∃ b0 c0, L[k] = .slice (some ⟨b0, 0, none⟩) ns'[k].src.length c0 := by
                rcases ou.cases with ⟨-, h00⟩ | ⟨b0, c0, e, -, -, -, -⟩
                · rw [h00] at hsrc; simp at hsrc
                · exact ⟨b0, c0, e⟩
              have hg2 : w.heap.size ≤ g2 := (hD28.own.o2.lt (k := g2) rfl).1
              have CK : Hid (∀ W, Off (· = g) Wy W → W.cell? ⟨s, 2, none⟩ = some (.slice (some ⟨g2, 0, none⟩) ns.length c2) ∧ W.cell? ⟨g2, k * 4 + 3, none⟩ = some (.slice (some ⟨b0, 0, none⟩) ns'[k].src.length c0)) := fun W hW => by
                have hW' := hD28.own.keep (w' := W) fun b hB hb _ => hW.block b hb (by have := hD28.hg; show b ≠ g; omega)
                refine ⟨(hD28.out.off hW (by have := hD28.hs; have := hD28.hg; show ¬ s = g; omega)).cell 2 rfl, ?_⟩
                rcases hW'.o2.cases with ⟨h00, -⟩ | ⟨g3, cap3, e, -, -, -, hc⟩
                · cases h00
                · obtain ⟨e3, -, -⟩ := (Value.slice.injEq _ _ _ _ _ _).mp e
                  obtain ⟨-, -, -, d3⟩ := hc k hkn' hkL
                  simp only [Option.some.injEq, Addr.mk.injEq, and_true] at e3
                  rw [e3, ← e0]; exact d3
              have hbd := belowDrewD Wy
              have PK := Lib.hid (pick_any (ns.length : Int) Wy.drew (hD28.src.below hbd) (by omega) (by omega))
              have E0 := Lib.hid e0
              clear e0 ou
              generalize hsl : ns'[k].src.length = sl at *
              have HSL := Lib.hid hsl
              clear hsl
              go_upto_region 29 with fail
              refine wp_region_plan (fun W => W.cell? ⟨s, 2, none⟩ = some (.slice (some ⟨g2, 0, none⟩) ns.length c2) ∧ W.cell? ⟨g2, k * 4 + 3, none⟩ = some (.slice (some ⟨b0, 0, none⟩) sl c0)) 10 [(0, 0), (1, 1), (2, 0), (3, 0), (4, 0), (5, 1), (6, 0), (7, 0), (8, 2), (9, 0), (10, 3)] (by kernel_rfl) (by kernel_rfl) (CK.out _ (Off.of_below _ hbd)) ?_
              repeat ((first | refine wpPlan_take (v := ?_) rfl (by rfl) (by (intro w hSw; clear hSw; go_simp; try with_reducible rfl)) (fun _ _ _ h => h) ?_ | refine wpPlan_load (v := ?_) rfl (by rfl) (by (intro w hSw; (try dsimp only at hSw); go_simp; try with_reducible rfl)) (fun _ _ _ h => h) ?_); try simp only [List.getElem_toArray, List.getElem_cons_succ, List.getElem_cons_zero, Act.put, List.setIfInBounds_toArray, List.set_cons_zero, List.set_cons_succ])
              refine wpPlan_call rfl (by rfl) (fun K hK => ?_)
              go_simp
              refine PK.out.mono ?_; rintro e W8 ⟨y2, -, rfl, hs8, ho8⟩; have ho8' : Off (· = g) Wy W8 := (Off.of_below _ hbd).trans ho8
              refine hK _ _ (CK.out _ ho8') ?_
              clear hK K
              try simp only [Act.put, List.setIfInBounds_toArray, List.set_cons_zero, List.set_cons_succ]
              have hsl0 : 0 < sl := hsrc
              have o8 := HO8.out _ ho8'
              rw [E0.out] at o8
              obtain ⟨-, hB8, hl8, hc8, hf8, hset8⟩ := o8.storing (k := 0) (by have := HSL.out; omega)
              have D8 := hD28.step ho8' hs8
              have FIN : Hid (∀ v : Int, ∃ ns2 : List NodeD, ns2.length = ns.length ∧ KOk ns2 ∧ DB g (m + 6000 + 4 * (k + 1)) w (W8.setCell ⟨b0, 0, none⟩ (.int .i64 v)) r s inp (.slice p1 L1.length c1) (.slice (some ⟨g2, 0, none⟩) ns.length c2) (.slice (some ⟨r + 1, 0, none⟩) 0 0) ts ns2 [] L1 L) := fun v => by
                have hbk : Blk (L1 ++ (L ++ [.slice (some ⟨r + 1, 0, none⟩) 0 0])) b0 := blk_append.2 (.inr (blk_append.2 (.inl ⟨L[k], List.getElem_mem hkL, by rw [E0.out]; rfl⟩)))
                have hsb : s ≠ b0 := fun e => (D8.own.neBox D8.out patchT).2.2 (e ▸ hbk)
                have own' := D8.own.swapAtD (w' := W8.setCell ⟨b0, 0, none⟩ (.int .i64 v)) hkn' hkL (ys := ns'[k].src.set 0 v) (by rw [E0.out]; exact hset8 v) (Off.set1 (S := fun b => L[k].ownBlock = some b) _ (by rw [E0.out]; rfl))
                refine ⟨_, by rw [List.length_set]; exact HNL.out, fun nd hnd => ?_, (D8.upd (Off.set1 (S := fun q => q = s ∨ PBlk _ _ _ _ _ q) _ (.inr (.inr (.inr hbk)))) own' (D8.out.other (a := ⟨b0, 0, none⟩) hsb _)).mono (by omega)⟩
                rcases List.mem_or_eq_of_mem_set hnd with h | rfl
                · exact hko' nd h
                · have e : ns'.getD k zND = ns'[k] := by rw [List.getD_eq_getElem?_getD, List.getElem?_eq_getElem hkn']; rfl
                  rw [e]
                  exact ⟨by show (ns'[k].src.set 0 v).length ≤ 4; rw [List.length_set, HSL.out]; exact hs4, fun _ => by show 1 ≤ (ns'[k].src.set 0 v).length; rw [List.length_set, HSL.out]; exact hsrc⟩
              repeat ((first | refine wpPlan_take (v := ?_) rfl (by rfl) (by (intro w hSw; clear hSw; go_simp; try with_reducible rfl)) (fun _ _ _ h => h) ?_ | refine wpPlan_load (v := ?_) rfl (by rfl) (by (intro w hSw; (try dsimp only at hSw); go_simp; try with_reducible rfl)) (fun _ _ _ h => h) ?_); try simp only [List.getElem_toArray, List.getElem_cons_succ, List.getElem_cons_zero, Act.put, List.setIfInBounds_toArray, List.set_cons_zero, List.set_cons_succ])
              refine wpPlan_store rfl (by rfl) (fun K hK => ?_)
              go_simp
              refine hK _ _ ?_
              clear hK K
              try simp only [Act.put, List.setIfInBounds_toArray, List.set_cons_zero, List.set_cons_succ]
              refine wpPlan_nil ?_
              obtain ⟨ns2, e1, e2, e3⟩ := FIN.out y2
              go_wp2_with fail
              go_roundw
              case rel => exact ⟨k + 1, ns2, by go_num, by omega, e1, e2, e3⟩
              case measure => simp [intOf] <;> omega
          · obtain rfl : k = ns.length := by omega
            have hDn := hDk.mono (m' := m + 6100) (by omega)
            clear hDk
            go_wp2_with fail
            go_loopw [20] (fun i wr => ∃ (j : Int) (os : List Int) (v3 : Value), i = .int .i64 j ∧ 0 ≤ j ∧ (os.length : Int) + j = no ∧ DB g (m + 6100 + 2 * os.length) w wr r s inp (.slice p1 L1.length c1) (.slice p2 ns.length c2) v3 ts ns' os L1 L) (fun i _ => (intOf i).toNat)
            case atStart => exact ⟨(no : Int), [], _, rfl, by omega, by simp, hDn⟩
            case round =>
              obtain ⟨j, os, v3, rfl, hj, hjl, hDo⟩ := hrel
              clear hDn
              obtain ⟨Wo, rfl⟩ : ∃ W : World, W = wr := ⟨_, rfl⟩
              obtain ⟨p3, c3, rfl, -⟩ := hDo.own.o3.rd
              have HJL := Lib.hid hjl
              by_cases hj0 : 0 < j
              · have CK : Hid (∀ W, Off (· = g) Wo W → W.cell? ⟨s, 3, none⟩ = some (.slice p3 os.length c3)) := fun W hW => (hDo.out.off hW (by have := hDo.hs; have := hDo.hg; show ¬ s = g; omega)).cell 3 rfl
                have hbd := belowDrewD Wo
                have PK := Lib.hid (pick_any 3 Wo.drew (hDo.src.below hbd) (by omega) (by omega))
                have hol : os.length < 17592186044415 := by omega
                have hjb : j ≤ 100 := by omega
                clear hjl
                go_upto_region 33 with fail
                refine wp_region_plan (fun W => W.cell? ⟨s, 3, none⟩ = some (.slice p3 os.length c3)) 11 [(0, 0), (1, 1), (2, 0), (3, 0), (4, 0), (5, 2), (6, 0), (7, 2), (8, 2), (9, 2), (10, 0), (11, 3)] (by kernel_rfl) (by kernel_rfl) (CK.out _ (Off.of_below _ hbd)) ?_
                repeat ((first | refine wpPlan_take (v := ?_) rfl (by rfl) (by (intro w hSw; clear hSw; go_simp; try with_reducible rfl)) (fun _ _ _ h => h) ?_ | refine wpPlan_load (v := ?_) rfl (by rfl) (by (intro w hSw; (try dsimp only at hSw); go_simp; try with_reducible rfl)) (fun _ _ _ h => h) ?_); try simp only [List.getElem_toArray, List.getElem_cons_succ, List.getElem_cons_zero, Act.put, List.setIfInBounds_toArray, List.set_cons_zero, List.set_cons_succ])
                refine wpPlan_call rfl (by rfl) (fun K hK => ?_)
                go_simp
                refine PK.out.mono ?_; rintro e W8 ⟨y2, hy2, rfl, hs8, ho8⟩; obtain ⟨hp1, hp2⟩ := pickP_pos hy2 (by omega); have ho8' : Off (· = g) Wo W8 := (Off.of_below _ hbd).trans ho8; have D8 := hDo.step ho8' hs8
                refine hK _ _ (CK.out _ ho8') ?_
                clear hK K
                try simp only [Act.put, List.setIfInBounds_toArray, List.set_cons_zero, List.set_cons_succ]
                repeat ((first | refine wpPlan_take (v := ?_) rfl (by rfl) (by (intro w hSw; clear hSw; go_simp; try with_reducible rfl)) (fun _ _ _ h => h) ?_ | refine wpPlan_load (v := ?_) rfl (by rfl) (by (intro w hSw; (try dsimp only at hSw); go_simp; try with_reducible rfl)) (fun _ _ _ h => h) ?_); try simp only [List.getElem_toArray, List.getElem_cons_succ, List.getElem_cons_zero, Act.put, List.setIfInBounds_toArray, List.set_cons_zero, List.set_cons_succ])
                refine wpPlan_call rfl (by rfl) (fun K hK => ?_)
                go_simp
                refine (l00Max_any _ _ _).mono ?_; rintro e W9 ⟨rfl, hw9⟩; obtain rfl := hw9
                refine hK _ _ (CK.out _ ho8') ?_
                clear hK K
                try simp only [Act.put, List.setIfInBounds_toArray, List.set_cons_zero, List.set_cons_succ]
                refine wpPlan_call rfl (by rfl) (fun K hK => ?_)
                go_simp
                skip
                refine hK _ _ (CK.out _ (ho8'.afterD ((Below.refl _ _).alloc ho8'.size _))) ?_
                clear hK K
                try simp only [Act.put, List.setIfInBounds_toArray, List.set_cons_zero, List.set_cons_succ]
                refine wpPlan_call rfl (by rfl) (fun K hK => ?_)
                refine oper_append_new _ _ rfl rfl D8.own.o3 rfl hol D8.off.size ?_; intro v6 W6 hu6 hf6 hk6 hn6; obtain ⟨vp, vc, rfl, -⟩ := hu6.rd; have GR := D8.growOut hu6 hf6 hk6 hn6; have c6 := GR.1.1; have f6 := GR.1.2; have l6 := D8.out.lt; have l6' : s < W6.heap.size := Nat.lt_of_lt_of_le l6 hf6.2.2.2
                refine hK _ _ (c6) ?_
                clear hK K
                try simp only [List.getElem_toArray, List.getElem_cons_succ, List.getElem_cons_zero, Act.put, List.setIfInBounds_toArray, List.set_cons_zero, List.set_cons_succ]
                have HG := Lib.hid GR.2
                clear GR
                have hle : (os ++ [max 0 ((ns.length : Int) - 1 - y2)]).length = os.length + 1 := by simp
                repeat ((first | refine wpPlan_take (v := ?_) rfl (by rfl) (by (intro w hSw; clear hSw; go_simp; try with_reducible rfl)) (fun _ _ _ h => h) ?_ | refine wpPlan_load (v := ?_) rfl (by rfl) (by (intro w hSw; (try dsimp only at hSw); go_simp; try with_reducible rfl)) (fun _ _ _ h => h) ?_); try simp only [List.getElem_toArray, List.getElem_cons_succ, List.getElem_cons_zero, Act.put, List.setIfInBounds_toArray, List.set_cons_zero, List.set_cons_succ])
                refine wpPlan_store rfl (by rfl) (fun K hK => ?_)
                go_simp
                refine hK _ _ ?_
                clear hK K
                try simp only [Act.put, List.setIfInBounds_toArray, List.set_cons_zero, List.set_cons_succ]
                refine wpPlan_nil ?_
                have HG2 := Lib.hid (HG.out.mono (m' := m + 6100 + 2 * (os.length + 1)) (by omega))
                simp only [List.length_append, List.length_singleton] at HG2
                go_wp2_with fail
                go_roundw
                case rel => exact ⟨j - 1, os ++ [_], _, by go_num, by omega, by have := HJL.out; simp; omega, by have := HG2.out; simpa using this⟩
                case measure => simp [intOf] <;> omega
              · obtain rfl : j = 0 := by omega
                have u0 := hDo.res.cell 0 rfl
                have u1 := hDo.res.cell 1 rfl
                have u2 := hDo.res.cell 2 rfl
                have u3 := hDo.res.cell 3 rfl
                have f0 := hDo.res.frozen 0
                have f1 := hDo.res.frozen 1
                have f2 := hDo.res.frozen 2
                have f3 := hDo.res.frozen 3
                have x0 := hDo.out.cell 0 rfl
                have x1 := hDo.out.cell 1 rfl
                have x2 := hDo.out.cell 2 rfl
                have x3 := hDo.out.cell 3 rfl
                have hrw := hDo.hr
                have hrl := hDo.res.lt
                have b0 := hDo.res.set 0 (.int .i64 inp)
                have b1 := b0.set 1 (.slice p1 L1.length c1)
                have b2 := b1.set 2 (.slice p2 ns.length c2)
                have b3 := b2.set 3 (.slice p3 os.length c3)
                have own4 := ((((hDo.own.setBox hDo.res patchT 0 (.int .i64 inp)).setBox b0 patchT 1 (.slice p1 L1.length c1)).setBox b1 patchT 2 (.slice p2 ns.length c2)).setBox b2 patchT 3 (.slice p3 os.length c3))
                have hof := (((hDo.off.setD (i := 0) hrw (.int .i64 inp)).setD (i := 1) hrw (.slice p1 L1.length c1)).setD (i := 2) hrw (.slice p2 ns.length c2)).setD (i := 3) hrw (.slice p3 os.length c3)
                have hsr := hDo.src.stay (w' := (((Wo.setCell ⟨r, 0, none⟩ (.int .i64 inp)).setCell ⟨r, 1, none⟩ (.slice p1 L1.length c1)).setCell ⟨r, 2, none⟩ (.slice p2 ns.length c2)).setCell ⟨r, 3, none⟩ (.slice p3 os.length c3)) (B := w.heap.size) hDo.hg fun q h1 _ => (Below.heap_setCell _ _ _ _ (show q ≠ r by omega)).trans ((Below.heap_setCell _ _ _ _ (show q ≠ r by omega)).trans ((Below.heap_setCell _ _ _ _ (show q ≠ r by omega)).trans (Below.heap_setCell _ _ _ _ (show q ≠ r by omega))))
                obtain ⟨W', hW'⟩ : ∃ W', W' = (((Wo.setCell ⟨r, 0, none⟩ (.int .i64 inp)).setCell ⟨r, 1, none⟩ (.slice p1 L1.length c1)).setCell ⟨r, 2, none⟩ (.slice p2 ns.length c2)).setCell ⟨r, 3, none⟩ (.slice p3 os.length c3) := ⟨_, rfl⟩
                rw [← hW'] at b3 own4 hof hsr
                have k0' := b3.cell 0 rfl
                have k1' := b3.cell 1 rfl
                have k2' := b3.cell 2 rfl
                have k3' := b3.cell 3 rfl
                have FN : Hid (DrewQ g (m + 10000) inp no w (.returned (.agg #[.int .i64 inp, .slice p1 L1.length c1, .slice p2 ns.length c2, .slice p3 os.length c3])) W') :=
                  ⟨⟨inp, ts, ns', os⟩, _, _, _, L1, L, rfl, own4, hsr.mono (by omega), hof, rfl, by have := HJL.out; show os.length = no; omega, by show 1 ≤ ns'.length; omega, by show ns'.length ≤ 9; omega, hts.1, hts.2, hko'⟩
                have HWW := Lib.hid hW'
                clear hW' b0 b1 b2 b3 own4 hof hsr hDo hjl hko' hnl
                go_wp2_with fail
                rw [← HWW.out]
                refine bodyPost_ret (v := .agg #[.int .i64 inp, .slice p1 L1.length c1, .slice p2 ns.length c2, .slice p3 os.length c3]) (by simp [results, Tryz.results58, go_sem, *]) rfl ?_
                exact FN.out
end Go.Proofs.YtcfhcmgmkhfjjaaGreat

namespace Go.Proofs.YtcfhcmgmkhfjjaaGreat
open Go.ChangeShapes Go.WideShapes Go.ChangeAt Go.RowKit Go.Sort
set_option linter.unusedVariables false
set_option linter.unusedSimpArgs false

theorem DB.freshAt {g m : Nat} {w0 w W : World} {r s : Nat} {inp : Int} {v1 v2 v3 u : Value} {ts : List (List Int)} {ns : List NodeD} {os : List Int} {L1 L : List Value} {B' : Nat} {xs : List Int} (_ : DB g m w0 w r s inp v1 v2 v3 ts ns os L1 L) (hu : OwnI B' W u xs) (hB : ∀ b, Blk (L1 ++ (L ++ [v3])) b → b < B') : ∀ b, u.ownBlock = some b → ¬ Blk (L1 ++ (L ++ [v3])) b := fun b hb hbk => by
  have h1 := (hu.lt hb).1
  have h2 := hB b hbk
  omega
/-- bounds of a drawn patch -/
structure BtOk (inp : Int) (ts : List (List Int)) (ns : List NodeD) (os : List Int) : Prop where
  i : -1 ≤ inp ∧ inp ≤ 5
  o : os.length ≤ 3
  n : 1 ≤ ns.length ∧ ns.length ≤ 25
  t : ts.length ≤ 3
  r : ∀ t ∈ ts, t.length ≤ 8
  s : ∀ nd ∈ ns, nd.src.length ≤ 4
/-- a drawn patch -/
def DrewB (g m : Nat) (w : World) (e : Ending) (w' : World) : Prop := ∃ (x : PatchD) (v1 v2 v3 : Value) (L1 L : List Value), e = .returned (.agg #[.int .i64 x.inputs, v1, v2, v3]) ∧ OwnP w.heap.size w' v1 v2 v3 x.tables x.nodes x.outputs L1 L ∧ SrcAt w' g m ∧ Off (· = g) w w' ∧ BtOk x.inputs x.tables x.nodes x.outputs
/-- a patch under construction, with its bounds -/
def DBB (g m : Nat) (w0 w : World) (r s : Nat) : Prop := ∃ (inp : Int) (v1 v2 v3 : Value) (ts : List (List Int)) (ns : List NodeD) (os : List Int) (L1 L : List Value), DB g m w0 w r s inp v1 v2 v3 ts ns os L1 L ∧ BtOk inp ts ns os
theorem wpList_append_valD {ops : Array Oper} {rest : List Oper} {o : Oper} {a : Act} {Q : Exit → Act → World → Prop} {w : World} {u : Value} {E T : Nat} (hgd : o.guard = none) (s x : Operand)
    (ho : o.op = .call { callee := .builtin .append, args := #[s, x], argTypes := #[T, T] }) (bytes : Nat) (z : Value) (hT : Tryz.prog.underlying T = some (.slice E)) (hinfo : (Tryz.prog.info? E).map (fun i => (i.zero, i.size, i.bytes)) = some (some z, 1, bytes)) (hz : z.cells.size = 1) (hby : bytes ≤ 64)
    {B : Nat} {v : Value} {L : List Value} (hs : a.eval s = v) (hown : OwnV B w E v L) (hx : a.eval x = .slice (some ⟨w.heap.size, 0, none⟩) 1 1) (h1 : u.oneCell' = true) (hlen : L.length < 1099511627776) (hB : B ≤ w.heap.size)
    (h : ∀ v' w', OwnV B w' E v' (L ++ [u]) → w.grownBy w' v.ownBlock → wpList Tryz.prog ops Q rest (a.put o.dst v') w') : wpList Tryz.prog ops Q (o :: rest) a (w.alloc (.cells #[u] E)) := by
  refine wpList_plain hgd fun K hK => ?_
  obtain ⟨v', w', e1, e2, e3⟩ := run_append_val w o.type E T bytes z hT hinfo hz hby hown h1 hlen hB
  unfold Oper.wp execOp
  simp only [ho, resolve, invoke, builtin, Sem.run_bind, Sem.run_pure, Result.andThen_ok, List.map_toArray, List.map_cons, List.map_nil, hs, hx, e1]
  have hk : ∀ k, k < w.heap.size → v.ownBlock ≠ some k → w'.heap[k]? = w.heap[k]? := fun k hk hne => (e3.block k (by simp; omega) (fun e => hne e.symm)).trans (Below.heap_alloc _ _ _ hk)
  exact hK _ _ (h v' w' e2 ⟨e3.os, e3.tape, e3.output, by have := e3.size; simp at this; omega, fun k h1 h2 => hk k h1 (fun e => h2 e.symm)⟩)
/-- the number of a patch's nodes, as it stands in its box -/
def nodesAt (w : World) (s : Nat) : Nat := match w.cell? ⟨s, 2, none⟩ with
  | some (.slice _ n _) => n
  | _ => 0
set_option maxHeartbeats 1000000 in
set_option maxRecDepth 100000 in
theorem l07Bent_any {g m : Nat} (w : World) (h : SrcAt w g m) (hm : m + 40000 ≤ 1099511627776) :
    Calls Tryz.prog 32 #[.pointer (some ⟨g, 0, none⟩)] w (DrewB g (m + 20000) w) := by
  have hg := h.lt
  obtain ⟨r, hr⟩ : ∃ r, r = w.heap.size := ⟨_, rfl⟩
  obtain ⟨E, hE⟩ : ∃ E, E = w.alloc (.cells zPatch.toArray 28) := ⟨_, rfl⟩
  have hB0 : Below w.heap.size w E := by rw [hE]; exact (Below.refl _ _).alloc (Nat.le_refl _) _
  have q0 : Box E r zPatch 28 := by rw [hE, hr]; exact Box.newAt w zPatch _ rfl
  have A1 := Lib.hid (amongLit_any [1, 1, 2, 0] E (h.below hB0) (by simp) (by simp) (by omega))
  have HE := Lib.hid hE
  have HR := Lib.hid hr
  have HQ := Lib.hid q0
  have HB := Lib.hid hB0
  have hrw : w.heap.size ≤ r := by omega
  clear hE hr h hB0 q0
  go_enter Tryz.func32, Tryz.ntmps32
  go_upto_region 1 with fail
  rw [← HE.out, ← HR.out]
  go_upto_region 2 with (first | (go_at_call 35; refine A1.out.mono ?_; rintro e W1 ⟨inp, hinp, rfl, hs1, ho1⟩; have hin : 0 ≤ inp ∧ inp ≤ 2 := (by simp only [List.mem_cons, List.not_mem_nil, or_false] at hinp; omega); clear hinp) | fail)
  have HO1 := Lib.hid ho1
  clear ho1 A1
  go_cut [4] (fun s4 wx => ∃ s, s4 = .pointer (some ⟨s, 0, none⟩) ∧ ∃ (v1 v2 v3 : Value) (ts : List (List Int)) (ns : List NodeD) (os : List Int) (L1 L : List Value), DB g (m + 10010) w wx r s inp v1 v2 v3 ts ns os L1 L ∧ BtOk inp ts ns os ∧ ns.length ≤ 9 ∧ ts.length ≤ 2 ∧ os.length ≤ 2)
  case first =>
    have FIN : Hid (∀ (W4 W3 : World) (no : Nat) (x : PatchD) (v1 v2 v3 : Value) (L1 L : List Value), Off (· = g) W1 W3 → OwnP W3.heap.size W4 v1 v2 v3 x.tables x.nodes x.outputs L1 L → SrcAt W4 g (m + 10006) → Off (· = g) W3 W4 → x.inputs = inp → x.outputs.length = no → no ≤ 2 → 1 ≤ x.nodes.length → x.nodes.length ≤ 9 → x.tables.length ≤ 2 → (∀ t ∈ x.tables, t.length ≤ 8) → KOk x.nodes →
        ∃ (v1' v2' v3' : Value) (ts : List (List Int)) (ns : List NodeD) (os : List Int) (L1 L : List Value), DB g (m + 10010) w (W4.alloc (.cells #[.int .i64 x.inputs, v1, v2, v3] 28)) r W4.heap.size inp v1' v2' v3' ts ns os L1 L ∧ BtOk inp ts ns os ∧ ns.length ≤ 9 ∧ ts.length ≤ 2 ∧ os.length ≤ 2) := by
      intro W4 W3 no x v1 v2 v3 L1 L o3 own s4 o4 e1 e2 e3 n1 n2 n3 n4 n5
      have o14 := HO1.out.trans (o3.trans o4)
      have b4 : Below W4.heap.size W4 (W4.alloc (.cells #[.int .i64 x.inputs, v1, v2, v3] 28)) := (Below.refl _ _).alloc (Nat.le_refl _) _
      have hE1 : w.heap.size ≤ W3.heap.size := Nat.le_trans HB.out.size (Nat.le_trans HO1.out.size o3.size)
      have q4 := HQ.out.off o14 (by show ¬ r = g; omega)
      refine ⟨v1, v2, v3, x.tables, x.nodes, x.outputs, L1, L, ⟨(own.mono hE1).below b4, ?_, q4.below b4, ?_, (s4.below b4).mono (by omega), hrw, ?_, ?_, hg⟩, ⟨by omega, by omega, by omega, by omega, n4, fun nd hnd => (n5 nd hnd).1⟩, n2, n3, by omega⟩
      · have := Box.newAt W4 [.int .i64 x.inputs, v1, v2, v3] 28 rfl
        rw [e1] at this ⊢; exact this
      · exact ((Off.of_below (· = g) HB.out).trans o14).afterD (b4.mono (Nat.le_trans hE1 o4.size))
      · exact Nat.le_trans hE1 o4.size
      · have := q4.lt; omega
    have DW : Hid (∀ (W : World) (lin : Bool) (y : Int), SrcAt W g (m + 6) → 0 ≤ y → y < 2 → Calls Tryz.prog 58 #[.pointer (some ⟨g, 0, none⟩), .int .i64 inp, .int .i64 (1 + y), .int .i64 9, .bool lin] W (DrewQ g (m + 10006) inp (1 + y).toNat W)) := fun W lin y hs h1 h2 => by
      have := l07Draw_any (g := g) (m := m + 6) (no := (1 + y).toNat) (inp := inp) (most := 9) lin W hs (by omega) (by omega) (by omega) (by omega)
      rw [show (((1 + y).toNat : Nat) : Int) = 1 + y by omega] at this
      exact this
    have hrl := HQ.out.lt
    go_wp2_with (first | (go_at_call 33; refine (pick_any 2 W1 hs1 (by omega) (by omega)).mono ?_; rintro e W2 ⟨y, hy, rfl, hs2, ho2⟩; have hy2 := pickP_pos hy (by omega)) | (go_at_call 59; refine (one_any 3 W2 hs2 (by omega) (by omega)).mono ?_; rintro e W3 ⟨bo, rfl, hs3, ho3⟩; cases bo) | (go_at_call 58; refine (DW.out W3 _ y (hs3.mono (by omega)) hy2.1 hy2.2).mono ?_; rintro e W4 ⟨x, v1, v2, v3, L1, L, rfl, own, hs4, ho4, e1, e2, n1, n2, n3, n4, n5⟩; obtain ⟨p1, c1, rfl⟩ := own.o1.sl'; obtain ⟨p2, c2, rfl⟩ := own.o2.sl; obtain ⟨p3, c3, rfl, -⟩ := own.o3.rd; have E2 := Lib.hid e2; have N2 := Lib.hid n2; have N3 := Lib.hid n3; have N1 := Lib.hid n1; clear e2 n1 n2 n3; have E1 := Lib.hid e1; clear e1) | fail)
    all_goals
      go_meet
      exact ⟨_, rfl, FIN.out W4 W3 _ x _ _ _ L1 L (ho2.trans ho3) own hs4 ho4 E1.out E2.out (by omega) N1.out N2.out N3.out n4 n5⟩
  case rest =>
    obtain ⟨s, rfl, v1, v2, v3, ts, ns, os, L1, L, hD, hbt, b9, b2, b3⟩ := hcut
    clear HO1 HQ HB hs1
    obtain ⟨W0, rfl⟩ : ∃ W : World, W = wc := ⟨_, rfl⟩
    obtain ⟨p1, c1, rfl⟩ := hD.own.o1.sl'
    obtain ⟨p2, c2, rfl⟩ := hD.own.o2.sl
    obtain ⟨p3, c3, rfl, -⟩ := hD.own.o3.rd
    have bn := hbt.n
    have z2 := hD.out.cell 2 rfl
    have PK1 := Lib.hid (pick_any (ns.length : Int) W0 hD.src (by omega) (by omega))
    go_upto_region 3 with fail
    go_cut [5] (fun s5 wx => ∃ kn : Nat, s5 = .int .i64 (kn : Int) ∧ kn < ns.length ∧ DB g (m + 10012) w wx r s inp (.slice p1 L1.length c1) (.slice p2 ns.length c2) (.slice p3 os.length c3) ts ns os L1 L)
    case first =>
      go_wp2_with (first | (go_at_call 33; refine PK1.out.mono ?_; rintro e W1 ⟨k, hk, rfl, hs1, ho1⟩; have hk2 := pickP_pos hk (by omega); have hD1 := hD.step ho1 hs1) | fail)
      go_meet
      exact ⟨k.toNat, by rw [Int.toNat_of_nonneg hk2.1], by omega, hD1⟩
    case rest =>
    obtain ⟨kn, rfl, hkn, hD1⟩ := hcut
    obtain ⟨W1, rfl⟩ : ∃ W : World, W = wc := ⟨_, rfl⟩
    clear hD z2 PK1
    rename_i KK hKK
    refine hKK _ _ ?_
    clear hKK KK
    apply wp_seq_k
    intro _ _
    go_cut [] (fun wx => DBB g (m + 19000) w wx r s)
    case first =>
      have PK2 := Lib.hid (pick_any 24 W1 hD1.src (by omega) (by omega))
      go_upto_region 5 with (first | (go_at_call 33; refine PK2.out.mono ?_; rintro e W2 ⟨c, -, rfl, hs2, ho2⟩; have hD2 := hD1.step ho2 hs2) | fail)
      clear hs2 ho2 hD1 PK2
      go_upto_if 28 with fail
      obtain ⟨W0, rfl⟩ : ∃ W : World, W = W2 := ⟨_, rfl⟩
      by_cases hc0 : c = 0
      · subst hc0
        have A0 := Lib.hid (amongLit_any [-1, 0, 5, 4] W0 hD2.src (by simp) (by simp) (by omega))
        go_wp2_with (first | (go_at_call 35; refine A0.out.mono ?_; rintro e W3 ⟨i2, hi2, rfl, hs3, ho3⟩; have hD3 := hD2.step ho3 hs3; have c3 := hD3.out.cell 0 rfl; have f3 := hD3.out.frozen 0; have l3 := hD3.out.lt) | fail)
        go_meet
        refine ⟨i2, _, _, _, ts, ns, os, L1, L, (hD3.setInp i2).mono (by omega), ⟨?_, hbt.o, hbt.n, hbt.t, hbt.r, hbt.s⟩⟩
        simp only [List.mem_cons, List.not_mem_nil, or_false] at hi2
        omega
      by_cases hc1 : c = 1
      · subst hc1
        go_upto_region 8 with fail
        have hbd := belowDrewD W0
        have CK : Hid (∀ W, Off (· = g) W0 W → W.cell? ⟨s, 3, none⟩ = some (.slice p3 os.length c3) ∧ W.cell? ⟨s, 2, none⟩ = some (.slice p2 ns.length c2)) := fun W hW => ⟨(hD2.out.off hW (by have := hD2.hs; have := hD2.hg; show ¬ s = g; omega)).cell 3 rfl, (hD2.out.off hW (by have := hD2.hs; have := hD2.hg; show ¬ s = g; omega)).cell 2 rfl⟩
        have A1 := Lib.hid (amongLit_any [(ns.length : Int), -1, 0] W0.drew (hD2.src.below hbd) (by simp) (by simp) (by omega))
        have hol : os.length < 17592186044415 := by omega
        refine wp_region_plan (fun W => W.cell? ⟨s, 3, none⟩ = some (.slice p3 os.length c3) ∧ W.cell? ⟨s, 2, none⟩ = some (.slice p2 ns.length c2)) 11 [(0, 0), (1, 1), (2, 0), (3, 0), (4, 1), (5, 0), (6, 2), (7, 2), (8, 2), (9, 2), (10, 0), (11, 3)] (by kernel_rfl) (by kernel_rfl) (CK.out _ (Off.of_below _ hbd)) ?_
        repeat ((first | refine wpPlan_take (v := ?_) rfl (by rfl) (by (intro w hSw; clear hSw; go_simp; try with_reducible rfl)) (fun _ _ _ h => h) ?_ | refine wpPlan_load (v := ?_) rfl (by rfl) (by (intro w hSw; (try dsimp only at hSw); go_simp; try with_reducible rfl)) (fun _ _ _ h => h) ?_); try simp only [List.getElem_toArray, List.getElem_cons_succ, List.getElem_cons_zero, Act.put, List.setIfInBounds_toArray, List.set_cons_zero, List.set_cons_succ])
        refine wpPlan_call rfl (by rfl) (fun K hK => ?_)
        go_simp
        skip
        refine hK _ _ (CK.out _ (Off.of_below _ (hbd.alloc (Nat.le_refl _) _))) ?_
        clear hK K
        try simp only [Act.put, List.setIfInBounds_toArray, List.set_cons_zero, List.set_cons_succ]
        refine wpPlan_call rfl (by rfl) (fun K hK => ?_)
        go_simp
        refine A1.out.mono ?_; rintro e W8 ⟨y2, hy2, rfl, hs8, ho8⟩; have ho8' : Off (· = g) W0 W8 := (Off.of_below _ hbd).trans ho8; have D8 := hD2.step ho8' hs8
        refine hK _ _ (CK.out _ ho8') ?_
        clear hK K
        try simp only [Act.put, List.setIfInBounds_toArray, List.set_cons_zero, List.set_cons_succ]
        refine wpPlan_call rfl (by rfl) (fun K hK => ?_)
        go_simp
        skip
        refine hK _ _ (CK.out _ (ho8'.afterD ((Below.refl _ _).alloc ho8'.size _))) ?_
        clear hK K
        try simp only [Act.put, List.setIfInBounds_toArray, List.set_cons_zero, List.set_cons_succ]
        refine wpPlan_call rfl (by rfl) (fun K hK => ?_)
        refine oper_append_new _ _ rfl rfl D8.own.o3 rfl hol D8.off.size ?_; intro v6 W6 hu6 hf6 hk6 hn6; obtain ⟨vp, vc, rfl, -⟩ := hu6.rd; have GR := D8.growOut hu6 hf6 hk6 hn6; have c6 := GR.1.1; have f6 := GR.1.2; have l6 := D8.out.lt; have q6 := (D8.out.keep (hk6 _ l6 (fun e => (D8.own.neBox D8.out patchT).2.2 (blk_append.2 (.inr (blk_append.2 (.inr (Blk.one.2 e)))))))).cell 2 rfl; have l6' : s < W6.heap.size := Nat.lt_of_lt_of_le l6 hf6.2.2.2
        refine hK _ _ (⟨c6, q6⟩) ?_
        clear hK K
        try simp only [List.getElem_toArray, List.getElem_cons_succ, List.getElem_cons_zero, Act.put, List.setIfInBounds_toArray, List.set_cons_zero, List.set_cons_succ]
        have HG0 := GR.2
        simp only [List.length_append, List.length_singleton] at HG0
        have HG := Lib.hid HG0
        clear GR HG0
        repeat ((first | refine wpPlan_take (v := ?_) rfl (by rfl) (by (intro w hSw; clear hSw; go_simp; try with_reducible rfl)) (fun _ _ _ h => h) ?_ | refine wpPlan_load (v := ?_) rfl (by rfl) (by (intro w hSw; (try dsimp only at hSw); go_simp; try with_reducible rfl)) (fun _ _ _ h => h) ?_); try simp only [List.getElem_toArray, List.getElem_cons_succ, List.getElem_cons_zero, Act.put, List.setIfInBounds_toArray, List.set_cons_zero, List.set_cons_succ])
        refine wpPlan_store rfl (by rfl) (fun K hK => ?_)
        go_simp
        refine hK _ _ ?_
        clear hK K
        try simp only [Act.put, List.setIfInBounds_toArray, List.set_cons_zero, List.set_cons_succ]
        refine wpPlan_nil ?_
        go_wp2_with fail
        go_meet
        exact ⟨inp, _, _, _, ts, ns, os ++ [y2], L1, L, HG.out.mono (m' := m + 19000) (by omega), ⟨by omega, by (rw [List.length_append, List.length_singleton]; omega), hbt.n, hbt.t, hbt.r, hbt.s⟩⟩
      by_cases hc2 : c = 2
      · subst hc2
        go_upto_region 10 with fail
        have hbd := belowDrewD W0
        obtain ⟨g2, cap2, e2⟩ : ∃ g2 cap2, (Value.slice p2 ns.length c2) = .slice (some ⟨g2, 0, none⟩) ns.length cap2 := by
          rcases hD2.own.o2.cases with ⟨-, h0, -⟩ | ⟨g2, cap2, e, hB, hlt, _, hc⟩
          · exfalso; rw [h0] at hkn; simp at hkn
          · exact ⟨g2, cap2, e⟩
        obtain ⟨rfl, -, rfl⟩ := (Value.slice.injEq _ _ _ _ _ _).mp e2
        clear e2
        have CK : Hid (∀ W, Off (· = g) W0 W → W.cell? ⟨s, 2, none⟩ = some (.slice (some ⟨g2, 0, none⟩) ns.length c2)) := fun W hW => (hD2.out.off hW (by have := hD2.hs; have := hD2.hg; show ¬ s = g; omega)).cell 2 rfl
        have A1 := Lib.hid (l06Bent_any 1 W0.drew (hD2.src.below hbd) (by omega) (by omega))
        refine wp_region_plan (fun W => W.cell? ⟨s, 2, none⟩ = some (.slice (some ⟨g2, 0, none⟩) ns.length c2)) 6 [(0, 0), (1, 1), (2, 0), (3, 0), (4, 2), (5, 0), (6, 3)] (by kernel_rfl) (by kernel_rfl) (CK.out _ (Off.of_below _ hbd)) ?_
        repeat ((first | refine wpPlan_take (v := ?_) rfl (by rfl) (by (intro w hSw; clear hSw; go_simp; try with_reducible rfl)) (fun _ _ _ h => h) ?_ | refine wpPlan_load (v := ?_) rfl (by rfl) (by (intro w hSw; (try dsimp only at hSw); go_simp; try with_reducible rfl)) (fun _ _ _ h => h) ?_); try simp only [List.getElem_toArray, List.getElem_cons_succ, List.getElem_cons_zero, Act.put, List.setIfInBounds_toArray, List.set_cons_zero, List.set_cons_succ])
        refine wpPlan_call rfl (by rfl) (fun K hK => ?_)
        go_simp
        refine A1.out.mono ?_; rintro e W8 ⟨x, u, rfl, hx4, hou, hs8, ho8⟩; obtain ⟨qu, cu, rfl, -⟩ := hou.rd; have ho8' : Off (· = g) W0 W8 := (Off.of_below _ hbd).trans ho8; have D8 := hD2.step ho8' hs8
        refine hK _ _ (CK.out _ ho8') ?_
        clear hK K
        try simp only [Act.put, List.setIfInBounds_toArray, List.set_cons_zero, List.set_cons_succ]
        repeat ((first | refine wpPlan_take (v := ?_) rfl (by rfl) (by (intro w hSw; clear hSw; go_simp; try with_reducible rfl)) (fun _ _ _ h => h) ?_ | refine wpPlan_load (v := ?_) rfl (by rfl) (by (intro w hSw; (try dsimp only at hSw); go_simp; try with_reducible rfl)) (fun _ _ _ h => h) ?_); try simp only [List.getElem_toArray, List.getElem_cons_succ, List.getElem_cons_zero, Act.put, List.setIfInBounds_toArray, List.set_cons_zero, List.set_cons_succ])
        obtain ⟨-, hB8, hl8, ⟨z0, z1, z2', z3, c80, c81, c82, c83⟩, hf8, -⟩ := D8.own.o2.storing (k := kn) hkn
        have f80 := hf8 (kn * 4)
        have f81 := hf8 (kn * 4 + 1)
        have f82 := hf8 (kn * 4 + 2)
        have f83 := hf8 (kn * 4 + 3)
        refine wpPlan_store rfl (by rfl) (fun K hK => ?_)
        go_simp
        refine hK _ _ ?_
        clear hK K
        try simp only [Act.put, List.setIfInBounds_toArray, List.set_cons_zero, List.set_cons_succ]
        refine wpPlan_nil ?_
        have hsz : W0.heap.size ≤ W0.drew.heap.size := Nat.le_refl _
        have hou' : OwnI w.heap.size W8 (.slice qu x.src.length cu) x.src := hou.mono (Nat.le_trans hD2.off.size hsz)
        have own' := D8.own.setNodeD hkn x hou' (D8.freshAt hou (fun b hb => Nat.lt_of_lt_of_le (hD2.own.blk hb).2 hsz))
        have hgs : s ≠ g2 := fun e => (D8.own.neBox D8.out patchT).2.1 (by rw [e]; rfl)
        have DU := D8.upd (((((Off.set1 (S := fun q => q = s ∨ PBlk (.slice p1 L1.length c1) (.slice (some ⟨g2, 0, none⟩) ns.length c2) (.slice p3 os.length c3) L1 L q) (w := W8) (s := g2) (i := kn * 4) (.int .i64 x.kind) (.inr (.inr (.inl rfl)))).trans (Off.set1 (i := kn * 4 + 1) (.int .i64 x.a) (.inr (.inr (.inl rfl))))).trans (Off.set1 (i := kn * 4 + 2) (.int .i64 x.b) (.inr (.inr (.inl rfl))))).trans (Off.set1 (i := kn * 4 + 3) (.slice qu x.src.length cu) (.inr (.inr (.inl rfl)))))) own' ((((D8.out.other (a := ⟨g2, kn * 4, none⟩) hgs _).other (a := ⟨g2, kn * 4 + 1, none⟩) hgs _).other (a := ⟨g2, kn * 4 + 2, none⟩) hgs _).other (a := ⟨g2, kn * 4 + 3, none⟩) hgs _)
        have HDU := Lib.hid DU
        clear DU own'
        go_wp2_with fail
        go_meet
        refine ⟨inp, _, _, _, ts, _, os, L1, _, HDU.out.mono (by omega), ⟨by omega, hbt.o, by rw [List.length_set]; exact hbt.n, hbt.t, hbt.r, fun nd hnd => ?_⟩⟩
        rcases List.mem_or_eq_of_mem_set hnd with h | rfl
        · exact hbt.s nd h
        · exact hx4
      by_cases hc3 : c = 3
      · subst hc3
        have y2 := hD2.out.cell 2 rfl
        have b1 : Below W0.heap.size W0 (W0.alloc (.cells #[.int .i64 (ns.length : Int)] 2)) := (Below.refl _ _).alloc (Nat.le_refl _) _
        have hD3 := hD2.below b1
        have hlL : ns.length < 1099511627776 := by omega
        have hwz := hD3.off.size
        have hsl3 := hD3.out.lt
        have ou : OwnI W0.heap.size (W0.alloc (.cells #[.int .i64 (ns.length : Int)] 2)) (.slice (some ⟨W0.heap.size, 0, none⟩) 1 1) [(ns.length : Int)] := OwnI.lit W0 [(ns.length : Int)] (Nat.le_refl _) (by simp [maxLen])
        have hnew := hD3.freshAt ou (fun b hb => (hD2.own.blk hb).2)
        go_wp2_with (first | (at_builtin; refine wpList_append_node rfl _ _ rfl (⟨5, 2, 0, [(ns.length : Int)]⟩ : NodeD) rfl rfl rfl rfl hD3.own.o2 (by first | rfl | (rw [World.size_alloc]; rfl)) rfl hlL hwz ?_; intro v' W9 hv hg9 hk9; obtain ⟨vp, vc, rfl⟩ := hv.slS; have PN := hD3.node (y := ⟨5, 2, 0, [(ns.length : Int)]⟩) (ou.mono hD2.off.size) hnew hv hg9; have c2' := PN.1.1; have f2' := PN.1.2; have l9 : s < W9.heap.size := Nat.lt_of_lt_of_le hsl3 hg9.size) | fail)
        go_meet
        exact ⟨inp, _, _, _, ts, _, os, L1, _, PN.2.mono (by omega), ⟨by omega, hbt.o, by simp; omega, hbt.t, hbt.r, fun nd hnd => by
          rcases List.mem_append.1 hnd with h | h
          · exact hbt.s nd h
          · rw [List.mem_singleton] at h; subst h; simp⟩⟩
      by_cases hc4 : c = 4
      · subst hc4
        have y2 := hD2.out.cell 1 rfl
        have b1 : Below W0.heap.size W0 (W0.alloc (.cells #[.int .i64 1, .int .i64 2, .int .i64 3] 2)) := (Below.refl _ _).alloc (Nat.le_refl _) _
        have hD3 := hD2.below b1
        have hl2 : L1.length ≤ 2 := by have := hD2.own.s1.1; omega
        have hlL : L1.length < 1099511627776 := by omega
        have hwz := hD3.off.size
        have hsl3 := hD3.out.lt
        have ou : OwnI W0.heap.size (W0.alloc (.cells #[.int .i64 1, .int .i64 2, .int .i64 3] 2)) (.slice (some ⟨W0.heap.size, 0, none⟩) 3 3) [1, 2, 3] := OwnI.lit W0 [1, 2, 3] (Nat.le_refl _) (by simp [maxLen])
        have hnew := hD3.freshAt ou (fun b hb => (hD2.own.blk hb).2)
        go_wp2_with (first | (at_builtin; refine wpList_append_valD rfl _ _ rfl 24 (.slice none 0 0) Tryz.underlying24 infoII rfl (by omega) rfl hD3.own.o1 (by first | rfl | (rw [World.size_alloc]; rfl)) rfl hlL hwz ?_; intro v' W9 hv hg9; obtain ⟨vp, vc, rfl⟩ := hv.slS; have PN := hD3.table (y := [1, 2, 3]) (ou.mono hD2.off.size) hnew hv hg9; have c2' := PN.1.1; have f2' := PN.1.2; have l9 : s < W9.heap.size := Nat.lt_of_lt_of_le hsl3 hg9.size) | fail)
        go_meet
        exact ⟨inp, _, _, _, _, ns, os, _, L, PN.2.mono (by omega), ⟨by omega, hbt.o, hbt.n, by simp; omega, fun t ht => by
          rcases List.mem_append.1 ht with h | h
          · exact hbt.r t h
          · rw [List.mem_singleton] at h; subst h; simp, hbt.s⟩⟩
      by_cases hc5 : c = 5
      · subst hc5
        go_wp2_with fail
        go_loopw [] (fun wr => ∃ (ns' : List NodeD) (v2 : Value) (L' : List Value), DB g (m + 10014) w wr r s inp (.slice p1 L1.length c1) v2 (.slice p3 os.length c3) ts ns' os L1 L' ∧ 1 ≤ ns'.length ∧ ns'.length ≤ 24 ∧ ∀ nd ∈ ns', nd.src.length ≤ 4) (fun wr => 24 - nodesAt wr s)
        case atStart => exact ⟨ns, _, L, hD2, by omega, by omega, hbt.s⟩
        case round =>
          obtain ⟨ns', v2, L', hDk, hn1, hn24, hn4⟩ := hrel
          obtain ⟨Wk, rfl⟩ : ∃ W : World, W = wr := ⟨_, rfl⟩
          clear hD2
          obtain ⟨pk, ck, rfl⟩ := hDk.own.o2.sl
          have y2 := hDk.out.cell 2 rfl
          have hNA : nodesAt Wk s = ns'.length := by unfold nodesAt; rw [y2]
          by_cases hlt : ns'.length < 24
          · have b1 : Below Wk.heap.size Wk (Wk.alloc (.cells #[] 2)) := (Below.refl _ _).alloc (Nat.le_refl _) _
            have hD3 := hDk.below b1
            have hlL : ns'.length < 1099511627776 := by omega
            have hwz := hD3.off.size
            have hsl3 := hD3.out.lt
            have ou : OwnI Wk.heap.size (Wk.alloc (.cells #[] 2)) (.slice (some ⟨Wk.heap.size, 0, none⟩) 0 0) [] := by
              have := OwnI.lit Wk [] (Nat.le_refl Wk.heap.size) (by simp [maxLen])
              simpa using this
            have hnew := hD3.freshAt ou (fun b hb => (hDk.own.blk hb).2)
            go_wp2_with (first | (at_builtin; refine wpList_append_node rfl _ _ rfl (⟨2, 1, 0, []⟩ : NodeD) rfl rfl rfl rfl hD3.own.o2 (by first | rfl | (rw [World.size_alloc]; rfl)) rfl hlL hwz ?_; intro v' W9 hv hg9 hk9; obtain ⟨vp, vc, rfl⟩ := hv.slS; have PN := hD3.node (y := ⟨2, 1, 0, []⟩) (ou.mono hDk.off.size) hnew hv hg9; have c2' := PN.1.1; have f2' := PN.1.2; have l9 : s < W9.heap.size := Nat.lt_of_lt_of_le hsl3 hg9.size) | fail)
            have hNB : nodesAt (W9.setCell ⟨s, 2, none⟩ (.slice vp (ns'.length + 1) vc)) s = ns'.length + 1 := by
              have := PN.2.out.cell 2 rfl
              unfold nodesAt
              rw [this]
            have HPN := Lib.hid PN.2
            have HNB := Lib.hid hNB
            clear PN hNB
            go_roundw
            case rel =>
              refine ⟨_, _, _, _, _, _, _, _, _, _, _, ⟨_, _, _, HPN.out, by simp, by simp; omega, fun nd hnd => ?_⟩, rfl⟩
              rcases List.mem_append.1 hnd with h | h
              · exact hn4 nd h
              · rw [List.mem_singleton] at h; subst h; simp
            case measure => rw [HNB.out, hNA]; omega
          · have ON := Lib.hid (one_any 2 Wk hDk.src (by omega) (by omega))
            go_upto_region 19 with (first | (go_at_call 59; refine ON.out.mono ?_; rintro e W5 ⟨bo, rfl, hs5, ho5⟩; have hD5 := hDk.step ho5 hs5; cases bo) | fail)
            · go_meet
              exact ⟨inp, _, _, _, ts, ns', os, L1, L', hD5.mono (m' := m + 19000) (by omega), ⟨by omega, hbt.o, by omega, hbt.t, hbt.r, hn4⟩⟩
            · clear hDk y2 hNA
              have y2 := hD5.out.cell 2 rfl
              have b1 : Below W5.heap.size W5 (W5.alloc (.cells #[] 2)) := (Below.refl _ _).alloc (Nat.le_refl _) _
              have hD3 := hD5.below b1
              have hlL : ns'.length < 1099511627776 := by omega
              have hwz := hD3.off.size
              have hsl3 := hD3.out.lt
              have ou : OwnI W5.heap.size (W5.alloc (.cells #[] 2)) (.slice (some ⟨W5.heap.size, 0, none⟩) 0 0) [] := by
                have := OwnI.lit W5 [] (Nat.le_refl W5.heap.size) (by simp [maxLen])
                simpa using this
              have hnew := hD3.freshAt ou (fun b hb => (hD5.own.blk hb).2)
              go_wp2_with (first | (at_builtin; (refine wpList_append_node rfl _ _ rfl (⟨14, 5, 0, []⟩ : NodeD) rfl rfl rfl rfl hD3.own.o2 (by first | rfl | (rw [World.size_alloc]; rfl)) rfl hlL hwz ?_); intro v' W9 hv hg9 hk9; obtain ⟨vp, vc, rfl⟩ := hv.slS; have PN := hD3.node (y := ⟨14, 5, 0, []⟩) (ou.mono hD5.off.size) hnew hv hg9; have c2' := PN.1.1; have f2' := PN.1.2; have l9 : s < W9.heap.size := Nat.lt_of_lt_of_le hsl3 hg9.size) | fail)
              go_meet
              exact ⟨inp, _, _, _, ts, _, os, L1, _, PN.2.mono (m' := m + 19000) (by omega), ⟨by omega, hbt.o, by simp; omega, hbt.t, hbt.r, fun nd hnd => by
                rcases List.mem_append.1 hnd with h | h
                · exact hn4 nd h
                · rw [List.mem_singleton] at h; subst h; simp⟩⟩
      go_wp2_with fail
      go_meet
      exact ⟨inp, _, _, _, ts, ns, os, L1, L, hD2.mono (by omega), hbt⟩
    case rest =>
    obtain ⟨inp', v1, v2, v3, ts', ns', os', L1', L', hD', hbt'⟩ := hcut
    obtain ⟨Wo, rfl⟩ : ∃ W : World, W = wc := ⟨_, rfl⟩
    clear hD1 hbt
    obtain ⟨p1', c1', rfl⟩ := hD'.own.o1.sl'
    obtain ⟨p2', c2', rfl⟩ := hD'.own.o2.sl
    obtain ⟨p3', c3', rfl, -⟩ := hD'.own.o3.rd
    have u0 := hD'.res.cell 0 rfl
    have u1 := hD'.res.cell 1 rfl
    have u2 := hD'.res.cell 2 rfl
    have u3 := hD'.res.cell 3 rfl
    have f0 := hD'.res.frozen 0
    have f1 := hD'.res.frozen 1
    have f2 := hD'.res.frozen 2
    have f3 := hD'.res.frozen 3
    have x0 := hD'.out.cell 0 rfl
    have x1 := hD'.out.cell 1 rfl
    have x2 := hD'.out.cell 2 rfl
    have x3 := hD'.out.cell 3 rfl
    have hrw := hD'.hr
    have hrl := hD'.res.lt
    have b0 := hD'.res.set 0 (.int .i64 inp')
    have b1 := b0.set 1 (.slice p1' L1'.length c1')
    have b2 := b1.set 2 (.slice p2' ns'.length c2')
    have b3 := b2.set 3 (.slice p3' os'.length c3')
    have own4 := ((((hD'.own.setBox hD'.res patchT 0 (.int .i64 inp')).setBox b0 patchT 1 (.slice p1' L1'.length c1')).setBox b1 patchT 2 (.slice p2' ns'.length c2')).setBox b2 patchT 3 (.slice p3' os'.length c3'))
    have hof := (((hD'.off.setD (i := 0) hrw (.int .i64 inp')).setD (i := 1) hrw (.slice p1' L1'.length c1')).setD (i := 2) hrw (.slice p2' ns'.length c2')).setD (i := 3) hrw (.slice p3' os'.length c3')
    have hsr := hD'.src.stay (w' := (((Wo.setCell ⟨r, 0, none⟩ (.int .i64 inp')).setCell ⟨r, 1, none⟩ (.slice p1' L1'.length c1')).setCell ⟨r, 2, none⟩ (.slice p2' ns'.length c2')).setCell ⟨r, 3, none⟩ (.slice p3' os'.length c3')) (B := w.heap.size) hD'.hg fun q h1 _ => (Below.heap_setCell _ _ _ _ (show q ≠ r by omega)).trans ((Below.heap_setCell _ _ _ _ (show q ≠ r by omega)).trans ((Below.heap_setCell _ _ _ _ (show q ≠ r by omega)).trans (Below.heap_setCell _ _ _ _ (show q ≠ r by omega))))
    obtain ⟨W', hW'⟩ : ∃ W', W' = (((Wo.setCell ⟨r, 0, none⟩ (.int .i64 inp')).setCell ⟨r, 1, none⟩ (.slice p1' L1'.length c1')).setCell ⟨r, 2, none⟩ (.slice p2' ns'.length c2')).setCell ⟨r, 3, none⟩ (.slice p3' os'.length c3') := ⟨_, rfl⟩
    rw [← hW'] at b3 own4 hof hsr
    have k0' := b3.cell 0 rfl
    have k1' := b3.cell 1 rfl
    have k2' := b3.cell 2 rfl
    have k3' := b3.cell 3 rfl
    have FN : Hid (DrewB g (m + 20000) w (.returned (.agg #[.int .i64 inp', .slice p1' L1'.length c1', .slice p2' ns'.length c2', .slice p3' os'.length c3'])) W') :=
      ⟨⟨inp', ts', ns', os'⟩, _, _, _, L1', L', rfl, own4, hsr.mono (by omega), hof, hbt'⟩
    have HWW := Lib.hid hW'
    clear hW' b0 b1 b2 b3 own4 hof hsr hD'
    go_wp2_with fail
    rw [← HWW.out]
    refine bodyPost_ret (v := .agg #[.int .i64 inp', .slice p1' L1'.length c1', .slice p2' ns'.length c2', .slice p3' os'.length c3']) (by simp [results, Tryz.results32, go_sem, *]) rfl ?_
    exact FN.out
end Go.Proofs.YtcfhcmgmkhfjjaaGreat
