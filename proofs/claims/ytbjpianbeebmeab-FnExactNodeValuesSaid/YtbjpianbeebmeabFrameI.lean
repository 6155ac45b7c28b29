/-
  Frames of a patch: the program's player; contracts.
-/
import Derived.Test.YtbjpianbeebmeabFrameS
import Derived.Test.YtbjpianbeebmeabStepI
import Derived.Test.YtbjpianbeebmeabRegT
import Derived.StillTailTactics
namespace Go.Proofs.Ytbjpianbeebmeab
open Go.ChangeShapes Go.WideShapes Go.ChangeAt Go.RowKit Go.Sort
set_option linter.unusedVariables false
set_option linter.unusedSimpArgs false

/-! ### own things of unlike types lie apart -/
theorem OwnI.typedI {B : Nat} {w : World} {v : Value} {xs : List Int} (h : OwnI B w v xs) {k : Nat} (hk : v.ownBlock = some k) : ∃ cur, w.heap[k]? = some (.cells cur 2 (0, 0)) := by
  rcases h.2 with ⟨hn, _⟩ | ⟨g, cap, cur, hv, _, hg, _⟩
  · rw [hn] at hk; simp [Value.ownBlock] at hk
  · rw [hv] at hk
    simp only [Value.ownBlock, Option.some.injEq] at hk
    subst hk
    exact ⟨cur, hg⟩
theorem OwnV.typedV {B : Nat} {w : World} {E : TypeId} {v : Value} {L : List Value} (h : OwnV B w E v L) {k : Nat} (hk : v.ownBlock = some k) : ∃ cur, w.heap[k]? = some (.cells cur E (0, 0)) := by
  rcases h.2 with ⟨hn, _⟩ | ⟨g, cap, cur, hv, _, hg, _⟩
  · rw [hn] at hk; simp [Value.ownBlock] at hk
  · rw [hv] at hk
    simp only [Value.ownBlock, Option.some.injEq] at hk
    subst hk
    exact ⟨cur, hg⟩
theorem typed_ne {w : World} {k : Nat} {c c' : Array Value} {T T' : TypeId} {r r' : Nat × Nat} (h : w.heap[k]? = some (.cells c T r)) (h' : w.heap[k]? = some (.cells c' T' r')) (hT : T ≠ T') : False := by
  rw [h] at h'
  simp only [Option.some.injEq, Obj.cells.injEq] at h'
  exact hT h'.2.1
/-- a row of the state that still waits -/
def RowP (B : Nat) (w : World) (L : List Value) (vV : Value) (st : List (List Int)) (m : Nat) : Prop := ∃ u, L[m]? = some u ∧ OwnI B w u (st.getD m []) ∧ ∀ k, u.ownBlock = some k → vV.ownBlock ≠ some k
/-- the player at g: what it holds; P: the rows that still wait -/
structure PlayAt (B : Nat) (w : World) (g : Nat) (cs : List Value) (vO vV vC : Value) (n : Nat) (os vs : List Int) (st : List (List Int)) (P : Nat → Prop) (L : List Value) : Prop where
  box : Box w g cs 62
  ord : OwnI B w vO os
  val : OwnI B w vV vs
  row : OwnV B w 24 vC L
  len : L.length = n
  pend : ∀ m, m < n → P m → RowP B w L vV st m
  ap : ∀ k, vV.ownBlock = some k → vO.ownBlock ≠ some k
theorem PlayAt.below {B : Nat} {w w' : World} {g : Nat} {cs : List Value} {vO vV vC : Value} {n : Nat} {os vs : List Int} {st : List (List Int)} {P : Nat → Prop} {L : List Value} (h : PlayAt B w g cs vO vV vC n os vs st P L) (hb : Below w.heap.size w w') : PlayAt B w' g cs vO vV vC n os vs st P L :=
  ⟨h.box.below hb, h.ord.below hb, h.val.below hb, h.row.below hb, h.len, fun m hm hp => by
    obtain ⟨u, e, ho, hn⟩ := h.pend m hm hp
    exact ⟨u, e, ho.below hb, hn⟩, h.ap⟩
/-- a value is stored -/
theorem PlayAt.setVal {B : Nat} {w : World} {g D n c k : Nat} {cs : List Value} {vO vC : Value} {N : Nat} {os vs : List Int} {st : List (List Int)} {P : Nat → Prop} {L : List Value} (h : PlayAt B w g cs vO (.slice (some ⟨D, 0, none⟩) n c) vC N os vs st P L) (hk : k < vs.length) (y : Int) :
    PlayAt B (w.setCell ⟨D, k, none⟩ (.int .i64 y)) g cs vO (.slice (some ⟨D, 0, none⟩) n c) vC N os (vs.set k y) st P L := by
  obtain ⟨cur, hD⟩ := h.val.typedI (k := D) rfl
  have hs := (h.val.storing hk).2.2.2.2.2 y
  have hne : ∀ j, j ≠ D → (w.setCell ⟨D, k, none⟩ (.int .i64 y)).heap[j]? = w.heap[j]? := fun j hj => Below.heap_setCell _ _ _ _ hj
  refine ⟨h.box.other (by show g ≠ D; rintro rfl; exact typed_ne h.box hD (by decide)) _, h.ord.keep fun j hj => hne j fun e => h.ap D rfl (e ▸ hj), hs,
    h.row.keep fun j hj => hne j fun e => by subst e; obtain ⟨cur', hg⟩ := h.row.typedV hj; exact typed_ne hg hD (by decide), h.len, fun m hm hp => ?_, h.ap⟩
  obtain ⟨u, e, ho, hn⟩ := h.pend m hm hp
  exact ⟨u, e, ho.keep fun j hj => hne j fun e => hn j hj (e ▸ rfl), hn⟩
/-- a row is stored; it waits no more -/
theorem PlayAt.setRow {B : Nat} {w : World} {g C n c k : Nat} {cs : List Value} {vO vV u : Value} {N : Nat} {os vs ys : List Int} {st : List (List Int)} {P Q : Nat → Prop} {L : List Value} (h : PlayAt B w g cs vO vV (.slice (some ⟨C, 0, none⟩) n c) N os vs st P L) (hk : k < N) (hu : OwnI B w u ys) (hQ : ∀ m, Q m → P m ∧ m ≠ k) :
    PlayAt B (w.setCell ⟨C, k, none⟩ u) g cs vO vV (.slice (some ⟨C, 0, none⟩) n c) N os vs st Q (L.set k u) := by
  obtain ⟨cur, hC⟩ := h.row.typedV (k := C) rfl
  have hs := (h.row.storing (k := k) (by rw [h.len]; exact hk)).2.2.2.2.2 u
  have hne : ∀ j, j ≠ C → (w.setCell ⟨C, k, none⟩ u).heap[j]? = w.heap[j]? := fun j hj => Below.heap_setCell _ _ _ _ hj
  have hni : ∀ {v : Value} {xs : List Int}, OwnI B w v xs → ∀ j, v.ownBlock = some j → j ≠ C := fun ho j hj e => by
    subst e; obtain ⟨cur', hg⟩ := ho.typedI hj; exact typed_ne hg hC (by decide)
  refine ⟨h.box.other (by show g ≠ C; rintro rfl; exact typed_ne h.box hC (by decide)) _, h.ord.keep fun j hj => hne j (hni h.ord j hj), h.val.keep fun j hj => hne j (hni h.val j hj), hs, by rw [List.length_set]; exact h.len, fun m hm hq => ?_, h.ap⟩
  obtain ⟨hp, hmk⟩ := hQ m hq
  obtain ⟨u', e, ho, hn⟩ := h.pend m hm hp
  exact ⟨u', by rw [List.getElem?_set_ne (fun e => hmk e.symm)]; exact e, ho.keep fun j hj => hne j (hni ho j hj), hn⟩
theorem PlayAt.weaken {B : Nat} {w : World} {g : Nat} {cs : List Value} {vO vV vC : Value} {n : Nat} {os vs : List Int} {st : List (List Int)} {P Q : Nat → Prop} {L : List Value} (h : PlayAt B w g cs vO vV vC n os vs st P L) (hQ : ∀ m, Q m → P m) : PlayAt B w g cs vO vV vC n os vs st Q L :=
  ⟨h.box, h.ord, h.val, h.row, h.len, fun m hm hq => h.pend m hm (hQ m hq), h.ap⟩
/-- a player is made -/
def RetPl (w : World) (x : PatchD) (st : List (List Int)) (p1 : Option Addr) (c1 : Nat) (p2 : Option Addr) (c2 : Nat) (p3 : Option Addr) (c3 : Nat) (e : Ending) (w' : World) : Prop :=
  ∃ (g : Nat) (po : Option Addr) (co : Nat) (pv : Option Addr) (cv : Nat) (pc : Option Addr) (cc : Nat) (L : List Value), e = .returned (.pointer (some ⟨g, 0, none⟩)) ∧ w.heap.size ≤ g ∧
    PlayAt w.heap.size w' g [.int .i64 x.inputs, .slice p1 x.tables.length c1, .slice p2 x.nodes.length c2, .slice p3 x.outputs.length c3, .slice po (orderL x.nodes).length co, .slice pv x.nodes.length cv, .slice pc x.nodes.length cc]
      (.slice po (orderL x.nodes).length co) (.slice pv x.nodes.length cv) (.slice pc x.nodes.length cc) x.nodes.length (orderL x.nodes) (List.replicate x.nodes.length 0) st (fun _ => True) L ∧ Below w.heap.size w w'
set_option maxHeartbeats 4000000 in
set_option maxRecDepth 100000 in
theorem playerOf_any {x : PatchD} {st : List (List Int)} {p1 p2 p3 q : Option Addr} {c1 c2 c3 d : Nat} (w : World) (h : VPatch w (.agg #[.int .i64 x.inputs, .slice p1 x.tables.length c1, .slice p2 x.nodes.length c2, .slice p3 x.outputs.length c3]) x) (hs : RdII w q st) (hf : formedB x = true) (hl : st.length = x.nodes.length) (hr : ∀ r ∈ st, r.length ≤ 1048576) :
    Calls Try.prog 27 #[.agg #[.int .i64 x.inputs, .slice p1 x.tables.length c1, .slice p2 x.nodes.length c2, .slice p3 x.outputs.length c3], .agg #[.slice q st.length d]] w (RetPl w x st p1 c1 p2 c2 p3 c3) := by
  have hn24 : x.nodes.length ≤ 24 := (formed_iff.1 hf).2.2.1
  obtain ⟨g, hg⟩ : ∃ g, g = w.heap.size := ⟨_, rfl⟩
  obtain ⟨E0, hE0⟩ : ∃ E, E = (w.alloc (.cells #[.int .i64 x.inputs, .slice p1 x.tables.length c1, .slice p2 x.nodes.length c2, .slice p3 x.outputs.length c3] 35)).alloc (.cells #[.slice q st.length d] 37) := ⟨_, rfl⟩
  have hB0 : Below w.heap.size w E0 := by rw [hE0]; exact ((Below.refl _ _).alloc (Nat.le_refl _) _).alloc (by simp) _
  have bx : Box E0 g [.int .i64 x.inputs, .slice p1 x.tables.length c1, .slice p2 x.nodes.length c2, .slice p3 x.outputs.length c3] 35 := by rw [hE0, hg]; exact (Box.newAt w _ _ rfl).alloc _
  have bs : Box E0 (g + 1) [.slice q st.length d] 37 := by rw [hE0, hg]; exact Box.newAt (w.alloc _) _ _ (by simp)
  have HE := Lib.hid hE0
  have HG := Lib.hid hg
  have OR : Hid (∀ W, Below E0.heap.size E0 W → Calls Try.prog 45 #[.agg #[.int .i64 x.inputs, .slice p1 x.tables.length c1, .slice p2 x.nodes.length c2, .slice p3 x.outputs.length c3]] W fun e w' => ∃ u, e = .returned u ∧ OwnI W.heap.size w' u (orderL x.nodes) ∧ Below W.heap.size W w') := fun W hW => order_v W (h.below (hB0.trans (hW.mono hB0.size))) hf
  have SZ : Hid (∀ W, Calls Try.prog 47 #[.slice p2 x.nodes.length c2] W fun e w' => e = .returned (.int .i64 (x.nodes.length : Int)) ∧ W = w') := fun W => sizeN_any p2 x.nodes.length c2 W (by unfold maxLen; omega)
  have ZR : Hid (∀ W, Calls Try.prog 46 #[.int .i64 (x.nodes.length : Int)] W fun e w' => ∃ u, e = .returned u ∧ OwnI W.heap.size w' u (List.replicate x.nodes.length 0) ∧ Below W.heap.size W w') := fun W => zeros_any x.nodes.length W (by omega)
  have CL : Hid (∀ W, Below E0.heap.size E0 W → Calls Try.prog 48 #[.slice q st.length d] W fun e w' => ∃ v L, e = .returned v ∧ OwnII W.heap.size w' v st L ∧ Below W.heap.size W w') := fun W hW => clones_any (c := d) W (hs.below (hB0.trans (hW.mono hB0.size))) (by omega) hr
  have CK : Hid (∀ W, Below E0.heap.size E0 W → W.cell? ⟨g, 0, none⟩ = some (.int .i64 x.inputs) ∧ W.cell? ⟨g, 1, none⟩ = some (.slice p1 x.tables.length c1) ∧ W.cell? ⟨g, 2, none⟩ = some (.slice p2 x.nodes.length c2) ∧ W.cell? ⟨g, 3, none⟩ = some (.slice p3 x.outputs.length c3) ∧ W.cell? ⟨g + 1, 0, none⟩ = some (.slice q st.length d)) := fun W hW => ⟨(bx.below hW).cell 0 rfl, (bx.below hW).cell 1 rfl, (bx.below hW).cell 2 rfl, (bx.below hW).cell 3 rfl, (bs.below hW).cell 0 rfl⟩
  have z0 := bx.cell 0 rfl
  have z1 := bx.cell 1 rfl
  have z2 := bx.cell 2 rfl
  have z3 := bx.cell 3 rfl
  have z4 := bs.cell 0 rfl
  have hcur := belowDrew E0
  have HL := Lib.hid hl
  have hEw : w.heap.size ≤ E0.heap.size := hB0.size
  clear hE0 hg h hs hf hr hl
  go_enter Try.func27, Try.ntmps27
  go_upto_region 1 with fail
  rw [← HE.out, ← HG.out]
  go_region_held3 (fun W => W.cell? ⟨g, 0, none⟩ = some (.int .i64 x.inputs) ∧ W.cell? ⟨g, 1, none⟩ = some (.slice p1 x.tables.length c1) ∧ W.cell? ⟨g, 2, none⟩ = some (.slice p2 x.nodes.length c2) ∧ W.cell? ⟨g, 3, none⟩ = some (.slice p3 x.outputs.length c3) ∧ W.cell? ⟨g + 1, 0, none⟩ = some (.slice q st.length d)) (first | go_keep | exact CK.out _ (by (repeat (first | exact Below.refl _ _ | assumption | refine Below.setCell ?_ (by first | exact Nat.le_refl _ | omega | (simp; done) | (simp; omega)) _ | refine Below.alloc ?_ (by first | exact Nat.le_refl _ | omega | (simp; done) | (simp; omega)) _ | refine below_drewN ?_ _)))) (first | (go_at_call 45; refine (OR.out _ hcur).mono ?_; rintro e W1 ⟨u, rfl, hO, hb⟩; obtain ⟨po, co, rfl, -⟩ := hO.rd; have hOr := (fun (k : Nat) hk => (hO.lt (k := k) hk).2); have hz1 := hcur.size; have hcur := hcur.trans (hb.mono hcur.size)) | (go_at_call 47; refine (SZ.out _).mono ?_; rintro e w' ⟨rfl, rfl⟩) | (go_at_call 46; refine (ZR.out _).mono ?_; rintro e W2 ⟨u, rfl, hV, hb⟩; obtain ⟨pv, cv, hpv, -⟩ := hV.rd; rw [List.length_replicate] at hpv; subst hpv; have hVr := (fun (k : Nat) hk => (hV.lt (k := k) hk).2); have hO := hO.below hb; have hz2 := hcur.size; have hcur := hcur.trans (hb.mono hcur.size); have hs2 := hb.size) | (go_at_call 48; refine (CL.out _ hcur).mono ?_; rintro e W3 ⟨vC, L, rfl, hC, hb⟩; obtain ⟨pc, cc, hpc, -⟩ := hC.rd; rw [HL.out] at hpc; subst hpc; have hO := hO.below hb; have hV := hV.below hb; have hz3 := hcur.size; have hcur := hcur.trans (hb.mono hcur.size); have hs3 := hb.size))
  all_goals
    have hz0 : E0.drew.heap.size = E0.heap.size := rfl
    rw [hz0] at hO
    have hal : Below W3.heap.size W3 (W3.alloc (.cells #[.int .i64 x.inputs, .slice p1 x.tables.length c1, .slice p2 x.nodes.length c2, .slice p3 x.outputs.length c3, .slice po (orderL x.nodes).length co, .slice pv x.nodes.length cv, .slice pc x.nodes.length cc] 62)) := (Below.refl _ _).alloc (Nat.le_refl _) _
    have hB3 := hB0.trans (hcur.mono hB0.size)
    have PLY : PlayAt w.heap.size (W3.alloc (.cells #[.int .i64 x.inputs, .slice p1 x.tables.length c1, .slice p2 x.nodes.length c2, .slice p3 x.outputs.length c3, .slice po (orderL x.nodes).length co, .slice pv x.nodes.length cv, .slice pc x.nodes.length cc] 62)) W3.heap.size [.int .i64 x.inputs, .slice p1 x.tables.length c1, .slice p2 x.nodes.length c2, .slice p3 x.outputs.length c3, .slice po (orderL x.nodes).length co, .slice pv x.nodes.length cv, .slice pc x.nodes.length cc] (.slice po (orderL x.nodes).length co) (.slice pv x.nodes.length cv) (.slice pc x.nodes.length cc) x.nodes.length (orderL x.nodes) (List.replicate x.nodes.length 0) st (fun _ => True) L := by
      refine ⟨Box.newAt W3 _ _ rfl, (hO.mono hEw).below hal, (hV.mono (by omega)).below hal, (hC.1.mono (by omega)).below hal, hC.2.1.1.trans HL.out, fun m hm _ => ?_, fun k hk e => ?_⟩
      · have hms : m < st.length := by rw [HL.out]; exact hm
        obtain ⟨hLm, ho⟩ := hC.2.1.at_ hms
        refine ⟨L[m], List.getElem?_eq_getElem hLm, ?_, fun k hk e => ?_⟩
        · rw [List.getD_eq_getElem?_getD, List.getElem?_eq_getElem hms]
          exact (ho.mono (by omega)).below hal
        · have h1 := (ho.lt hk).1
          have h2 := hVr k e
          omega
      · have h1 := (hV.lt hk).1
        have h2 := hOr k e
        omega
    have PH := Lib.hid PLY
    clear PLY hO hV hC hOr hVr
    go_wp2_with fail
    go_ret
    exact ⟨_, po, co, pv, cv, pc, cc, L, rfl, hB3.size, PH.out, hB3.trans (hal.mono hB3.size)⟩
theorem OutOk.delay {x : NodeD} {tb : List (List Int)} {xs ss : List Int} (h : OutOk x tb xs ss) (hk : x.kind = 6) : OutOk x [] xs ss :=
  ⟨h.k, h.n, h.s, h.smps, h.clip, h.shift, fun e => by rw [hk] at e; omega⟩
set_option maxHeartbeats 1600000 in
theorem inputs_any {g : Nat} {x : NodeD} {fr vs : List Int} {pf pv qn : Option Addr} {cf cv dn : Nat} (w : World) (z5 : w.cell? ⟨g, 5, none⟩ = some (.slice pv vs.length cv)) (hn : RdI w qn x.src) (hf : RdI w pf fr) (hv : RdI w pv vs) (ha : x.kind = 1 → 0 ≤ x.a ∧ x.a < (fr.length : Int)) (hs : ∀ f ∈ x.src, 0 ≤ f ∧ f < (vs.length : Int)) (hl : x.src.length ≤ 1048576) :
    Calls Try.prog 50 #[.pointer (some ⟨g, 0, none⟩), .agg #[.int .i64 x.kind, .int .i64 x.a, .int .i64 x.b, .slice qn x.src.length dn], .slice pf fr.length cf] w fun e w' => ∃ v, e = .returned v ∧ OwnI w.heap.size w' v (inF x fr vs) ∧ Below w.heap.size w w' := by
  obtain ⟨gn, hgn⟩ : ∃ g, g = w.heap.size := ⟨_, rfl⟩
  obtain ⟨E, hE⟩ : ∃ E, E = w.alloc (.cells #[.int .i64 x.kind, .int .i64 x.a, .int .i64 x.b, .slice qn x.src.length dn] 74) := ⟨_, rfl⟩
  have hB : Below w.heap.size w E := by rw [hE]; exact (Below.refl _ _).alloc (Nat.le_refl _) _
  have bn : Box E gn [.int .i64 x.kind, .int .i64 x.a, .int .i64 x.b, .slice qn x.src.length dn] 74 := by rw [hE, hgn]; exact Box.newAt w _ _ rfl
  have lg := World.block_lt_of_cell? w _ z5
  have y5 := (hB.cell (p := ⟨g, 5, none⟩) lg).trans z5
  have lgE : g < E.heap.size := Nat.lt_of_lt_of_le lg hB.size
  have HE := Lib.hid hE
  have HG := Lib.hid hgn
  have z0 := bn.cell 0 rfl
  have z1 := bn.cell 1 rfl
  have z3 := bn.cell 3 rfl
  have lgn := bn.lt
  clear hE hgn z5
  by_cases hk : x.kind = 1
  · obtain ⟨a0, a1⟩ := ha hk
    obtain ⟨j, hj⟩ := Int.eq_ofNat_of_zero_le a0
    have hjl : j < fr.length := by omega
    have HI : Hid (inF x fr vs = [fr[j]]) := by unfold Hid inF; rw [if_pos hk, hj, Int.toNat_natCast, getD_at2 hjl]
    obtain ⟨bf, of_, rfl, hbf, hcf⟩ := (hf.below hB).pos hjl
    have hcj := hcf j hjl
    rw [hj] at z1
    generalize fr[j] = y at hcj HI
    have hq : (x.kind == 1) = true := by rw [beq_iff_eq]; exact hk
    have hlit := OwnI.lit (B := w.heap.size) E [y] hB.size (by simp [maxLen])
    have hBl := hB.alloc hB.size (.cells #[.int .i64 y] 2)
    have hfl := hf.len
    unfold maxLen at hfl
    clear hcf hf hk hj a0 a1 ha
    go_enter Try.func50, Try.ntmps50
    go_upto_region 1 with fail
    rw [← HE.out, ← HG.out]
    go_wp2_with fail
    go_ret
    exact ⟨_, rfl, by rw [HI.out]; exact hlit, hBl⟩
  · have HI : Hid (inF x fr vs = mapL vs x.src) := by unfold Hid inF; rw [if_neg hk]
    have hq : (x.kind == 1) = false := by rw [beq_eq_false_iff_ne]; exact hk
    have MP : Hid (∀ W, Below E.heap.size E W → Calls Try.prog 70 #[.slice qn x.src.length dn, .slice pv vs.length cv] W fun e w' => ∃ v, e = .returned v ∧ OwnI W.heap.size w' v (mapL vs x.src) ∧ Below W.heap.size W w') := fun W hW => mapped_any (c := dn) (d := cv) W (hn.below (hB.trans (hW.mono hB.size))) (hv.below (hB.trans (hW.mono hB.size))) hl hs
    have CK : Hid (∀ W, Below E.heap.size E W → W.cell? ⟨gn, 3, none⟩ = some (.slice qn x.src.length dn) ∧ W.cell? ⟨g, 5, none⟩ = some (.slice pv vs.length cv)) := fun W hW => ⟨(bn.below hW).cell 3 rfl, (hW.cell (p := ⟨g, 5, none⟩) lgE).trans y5⟩
    have hcur := belowDrew E
    clear hk ha hs hf hn
    go_enter Try.func50, Try.ntmps50
    go_upto_region 1 with fail
    rw [← HE.out, ← HG.out]
    go_wp2_with fail
    go_region_held3 (fun W => W.cell? ⟨gn, 3, none⟩ = some (.slice qn x.src.length dn) ∧ W.cell? ⟨g, 5, none⟩ = some (.slice pv vs.length cv)) (first | go_keep | exact CK.out _ (by (repeat (first | exact Below.refl _ _ | assumption | refine Below.setCell ?_ (by first | exact Nat.le_refl _ | omega | (simp; done) | (simp; omega)) _ | refine Below.alloc ?_ (by first | exact Nat.le_refl _ | omega | (simp; done) | (simp; omega)) _ | refine below_drewN ?_ _)))) ((go_at_call 70; refine (MP.out _ hcur).mono ?_; rintro e W1 ⟨v, rfl, hv1, hb⟩; have hsz := hcur.size; have hcur := hcur.trans (hb.mono hcur.size); obtain ⟨pp, cc, rfl, -⟩ := hv1.rd))
    all_goals
      go_wp2_with fail
      go_ret
      exact ⟨_, rfl, by rw [HI.out]; exact hv1.mono (Nat.le_trans hB.size hsz), hB.trans (hcur.mono hB.size)⟩
theorem outP_delay {x : NodeD} {tb : List (List Int)} {xs ss : List Int} (hk : x.kind = 6) : outP x tb xs ss = ss.getD 0 0 := by unfold outP; rw [hk]; rfl
theorem drop_mem {os : List Int} {k : Nat} (h : k < os.length) : os[k] ∈ os.drop k := by
  rw [List.drop_eq_getElem_cons h]; exact List.mem_cons_self ..
theorem drop_next {os : List Int} (hn : os.Nodup) {k : Nat} (h : k < os.length) {m : Int} (hm : m ∈ os.drop (k + 1)) : m ∈ os.drop k ∧ m ≠ os[k] := by
  have e := List.drop_eq_getElem_cons h
  refine ⟨by rw [e]; exact List.mem_cons_of_mem _ hm, fun e2 => ?_⟩
  have hd : (os.drop k).Nodup := hn.sublist (List.drop_sublist _ _)
  rw [e, List.nodup_cons] at hd
  exact hd.1 (e2 ▸ hm)
theorem PlayAt.valAt {B : Nat} {w : World} {g : Nat} {cs : List Value} {vO vC : Value} {n N c : Nat} {pv : Option Addr} {os vs : List Int} {st : List (List Int)} {P : Nat → Prop} {L : List Value} (h : PlayAt B w g cs vO (.slice pv n c) vC N os vs st P L) {k : Nat} (hk : k < vs.length) :
    ∃ D, pv = some ⟨D, 0, none⟩ ∧ D < w.heap.size ∧ B ≤ D ∧ (∃ u, w.cell? ⟨D, k, none⟩ = some u) ∧ ∀ j, w.frozen? ⟨D, j, none⟩ = false := by
  rcases h.val.cases with ⟨-, e⟩ | ⟨D, cap, e, hB, hl, -, -⟩
  · rw [e] at hk; simp at hk
  · simp only [Value.slice.injEq] at e
    obtain ⟨rfl, rfl, rfl⟩ := e
    obtain ⟨-, -, -, hz, hfz, -⟩ := h.val.storing hk
    exact ⟨D, rfl, hl, hB, ⟨_, hz⟩, fun j => World.ownsRow.frozenAt h.val j⟩
theorem PlayAt.rowAt {B : Nat} {w : World} {g : Nat} {cs : List Value} {vO vV : Value} {n N c : Nat} {pc : Option Addr} {os vs : List Int} {st : List (List Int)} {P : Nat → Prop} {L : List Value} (h : PlayAt B w g cs vO vV (.slice pc n c) N os vs st P L) {k : Nat} (hk : k < N) (hP : P k) :
    ∃ C u, pc = some ⟨C, 0, none⟩ ∧ C < w.heap.size ∧ B ≤ C ∧ w.cell? ⟨C, k, none⟩ = some u ∧ OwnI B w u (st.getD k []) ∧ ∀ j, w.frozen? ⟨C, j, none⟩ = false := by
  have hkL : k < L.length := by rw [h.len]; exact hk
  rcases h.row.cases with ⟨-, e⟩ | ⟨C, cap, e, hB, hl, -, hr⟩
  · rw [e] at hkL; simp at hkL
  · simp only [Value.slice.injEq] at e
    obtain ⟨rfl, rfl, rfl⟩ := e
    obtain ⟨u, hu, ho, -⟩ := h.pend k hk hP
    obtain ⟨b, o, e, hb, hc⟩ := hr.pos hkL
    cases e
    have h1 := hc k hkL
    rw [List.getElem?_eq_getElem hkL, Option.some.injEq] at hu
    rw [hu, Nat.zero_add] at h1
    exact ⟨C, u, rfl, hl, hB, h1, ho, fun j => World.ownsRow.frozenAt h.row j⟩
theorem PlayAt.cells {B : Nat} {w : World} {g D C : Nat} {cs : List Value} {vO : Value} {n N c n' c' : Nat} {os vs : List Int} {st : List (List Int)} {P : Nat → Prop} {L : List Value} (h : PlayAt B w g cs vO (.slice (some ⟨D, 0, none⟩) n c) (.slice (some ⟨C, 0, none⟩) n' c') N os vs st P L) {k : Nat} (hk : k < vs.length) (hN : k < N) (hP : P k) :
    (∃ a, w.cell? ⟨D, k, none⟩ = some a) ∧ w.frozen? ⟨D, k, none⟩ = false ∧ (∃ a, w.cell? ⟨C, k, none⟩ = some a) ∧ w.frozen? ⟨C, k, none⟩ = false := by
  obtain ⟨D', e, -, -, h1, h2⟩ := h.valAt hk
  obtain ⟨C', u, e', -, -, h3, -, h4⟩ := h.rowAt hN hP
  cases e; cases e'
  exact ⟨h1, h2 k, ⟨_, h3⟩, h4 k⟩
theorem OwnI.offCell {B B' : Nat} {w : World} {v u : Value} {xs : List Int} {a : Addr} (h : OwnI B' w v xs) (hB : B ≤ B') (ha : a.block < B') : OwnI B (w.setCell a u) v xs :=
  (h.mono hB).keep fun j hj => Below.heap_setCell _ _ _ _ (fun e => by have := (h.lt hj).1; omega)
set_option maxHeartbeats 16000000 in
set_option maxRecDepth 100000 in
theorem frame_any {g : Nat} {x : PatchD} {os fr : List Int} {st : List (List Int)} {p1 p2 p3 po pv pc pf : Option Addr} {c1 c2 c3 co cv cc cf : Nat} {L : List Value} (w0 w : World) (hw : Below w0.heap.size w0 w) (r1 : RdII w0 p1 x.tables) (r2 : RdNodeS w0 p2 x.nodes) (hf : RdI w0 pf fr) (ok : FrOk x st fr) (hnd : os.Nodup) (hom : ∀ o ∈ os, 0 ≤ o ∧ o < (x.nodes.length : Int))
    (hp : PlayAt w0.heap.size w g [.int .i64 x.inputs, .slice p1 x.tables.length c1, .slice p2 x.nodes.length c2, .slice p3 x.outputs.length c3, .slice po os.length co, .slice pv x.nodes.length cv, .slice pc x.nodes.length cc] (.slice po os.length co) (.slice pv x.nodes.length cv) (.slice pc x.nodes.length cc) x.nodes.length os (List.replicate x.nodes.length 0) st (fun _ => True) L) :
    Calls Try.prog 28 #[.pointer (some ⟨g, 0, none⟩), .slice pf fr.length cf] w fun e w' => (∃ v, e = .returned v) ∧ ∃ L', PlayAt w0.heap.size w' g [.int .i64 x.inputs, .slice p1 x.tables.length c1, .slice p2 x.nodes.length c2, .slice p3 x.outputs.length c3, .slice po os.length co, .slice pv x.nodes.length cv, .slice pc x.nodes.length cc] (.slice po os.length co) (.slice pv x.nodes.length cv) (.slice pc x.nodes.length cc) x.nodes.length os (valsF x st fr os) st (fun _ => False) L' ∧ Below w0.heap.size w0 w' := by
  have hn24 : x.nodes.length ≤ 24 := (formed_iff.1 ok.f).2.2.1
  have hol := (show os.length ≤ maxLen from by obtain ⟨_, _, e, hr⟩ := hp.ord.rd; exact hr.len)
  unfold maxLen at hol
  have HOK := Lib.hid ok
  have HOM := Lib.hid hom
  have HND := Lib.hid hnd
  have HP := Lib.hid hp
  have z4 := hp.box.cell 4 rfl
  have hgl := hp.box.lt
  clear ok hom hnd hp
  go_enter Try.func28, Try.ntmps28
  go_wp2_with fail
  clear z4
  go_loopw [14] (fun i wr => ∃ k : Nat, k ≤ os.length ∧ i = .int .i64 k ∧ ∃ L', PlayAt w0.heap.size wr g [.int .i64 x.inputs, .slice p1 x.tables.length c1, .slice p2 x.nodes.length c2, .slice p3 x.outputs.length c3, .slice po os.length co, .slice pv x.nodes.length cv, .slice pc x.nodes.length cc] (.slice po os.length co) (.slice pv x.nodes.length cv) (.slice pc x.nodes.length cc) x.nodes.length os (valsF x st fr (os.take k)) st (fun m => (m : Int) ∈ os.drop k ∨ (x.nodes.getD m ⟨0, 0, 0, []⟩).kind = 6) L' ∧ Below w0.heap.size w0 wr) (fun i _ => os.length - (intOf i).toNat)
  case atStart => exact ⟨0, Nat.zero_le _, rfl, L, HP.out.weaken (fun _ _ => trivial), hw⟩
  case round =>
    obtain ⟨k, hk, rfl, L1, hpl, hbel⟩ := hrel
    obtain ⟨wi, rfl⟩ : ∃ wi : World, wi = wr := ⟨_, rfl⟩
    clear HP hgl
    by_cases hlt : k < os.length
    · obtain ⟨po', co', eo, hro⟩ := hpl.ord.rd
      simp only [Value.slice.injEq, true_and] at eo
      obtain ⟨rfl, rfl⟩ := eo
      obtain ⟨ob, oo, rfl, hobl, hoc⟩ := hro.pos hlt
      have hok := hoc k hlt
      have hmem := HOM.out _ (List.getElem_mem hlt)
      have HVT := Lib.hid (valsF_take (x := x) (st := st) (fr := fr) hlt)
      have HDM := Lib.hid (drop_mem hlt)
      have HDN : Hid (∀ m : Int, m ∈ os.drop (k + 1) → m ∈ os.drop k ∧ m ≠ os[k]) := fun m hm => drop_next HND.out hlt hm
      obtain ⟨m, hm⟩ : ∃ m : Nat, os[k] = m := ⟨os[k].toNat, by omega⟩
      rw [hm] at hok hmem HVT HDM HDN
      have hmn : m < x.nodes.length := by omega
      have hsm := valsF_smps HOK.out (os := os.take k) (fun o ho => HOM.out o (List.mem_of_mem_take ho))
      have hvl := valsF_length x st fr (os.take k)
      have hoo := (HOK.out.out hsm hmn).1
      have hnd := HOK.out.nd hmn
      have hrl := (HOK.out.s m hmn).1
      have hrs := startL_length (startOk_of hnd.1)
      have HVS : Hid (valsF x st fr (os.take (k + 1)) = (valsF x st fr (os.take k)).set m (outP x.nodes[m] x.tables (inF x.nodes[m] fr (valsF x st fr (os.take k))) (st.getD m []))) := by
        unfold Hid
        rw [HVT.out, valS, Int.toNat_natCast, List.getD_eq_getElem?_getD (l := x.nodes), List.getElem?_eq_getElem hmn]; rfl
      have HKD : Hid ((x.nodes.getD m ⟨0, 0, 0, []⟩) = x.nodes[m]) := by unfold Hid; rw [List.getD_eq_getElem?_getD, List.getElem?_eq_getElem hmn]; rfl
      clear HVT
      generalize valsF x st fr (os.take k) = vs at hpl hvl hoo HVS
      obtain ⟨b, o, rfl, hbl, hc⟩ := r2.pos hmn
      have hnode := hc m hmn
      have hnl : x.nodes[m].src.length ≤ 1048576 := by
        have h1 := hnd.1
        rw [nodeB_split] at h1
        simp only [Bool.and_eq_true, beq_iff_eq] at h1
        have := kAr_le3' h1.1
        have := h1.2.2.1
        omega
      have hr16 : (st.getD m []).length ≤ 16 := by omega
      clear hrl
      generalize x.nodes[m] = nd at hnode hoo hnd HVS hnl HKD hrs
      obtain ⟨n0, n1, n2, qn, dn, n3, hrn⟩ := hnode
      have z0 := (hbel.cell (p := ⟨b, o + m * 4, none⟩) hbl).trans n0
      have z1 := (hbel.cell (p := ⟨b, o + m * 4 + 1, none⟩) hbl).trans n1
      have z2 := (hbel.cell (p := ⟨b, o + m * 4 + 2, none⟩) hbl).trans n2
      have z3 := (hbel.cell (p := ⟨b, o + m * 4 + 3, none⟩) hbl).trans n3
      have x2 := hpl.box.cell 2 rfl
      obtain ⟨F, hF⟩ : ∃ F, F = wi.alloc (.cells #[.int .i64 nd.kind, .int .i64 nd.a, .int .i64 nd.b, .slice qn nd.src.length dn] 74) := ⟨_, rfl⟩
      obtain ⟨gn, hgn⟩ : ∃ g, g = wi.heap.size := ⟨_, rfl⟩
      have hBF : Below wi.heap.size wi F := by rw [hF]; exact (Below.refl _ _).alloc (Nat.le_refl _) _
      have bn : Box F gn [.int .i64 nd.kind, .int .i64 nd.a, .int .i64 nd.b, .slice qn nd.src.length dn] 74 := by rw [hF, hgn]; exact Box.newAt _ _ _ rfl
      have hplF := hpl.below hBF
      have hbF := hbel.trans (hBF.mono hbel.size)
      have HF := Lib.hid hF
      have HGN := Lib.hid hgn
      obtain ⟨C, -, rfl, hCw, -, -, -, -⟩ := hpl.rowAt hmn (Or.inl HDM.out)
      obtain ⟨D, rfl, hDw, -, -, -⟩ := hpl.valAt (k := m) (by rw [hvl]; exact hmn)
      have hDg : gn ≠ D := by omega
      have hCg : gn ≠ C := by omega
      clear hF hgn hpl
      go_upto_region 4 with fail
      rw [← HF.out, ← HGN.out]
      clear z0 z1 z2 z3 x2
      obtain ⟨C', u, e, hCl, hCB, hcu, hou, hCf⟩ := hplF.rowAt hmn (Or.inl HDM.out)
      cases e
      obtain ⟨D', e, hDl, hDB, ⟨uo, hdu⟩, hDf⟩ := hplF.valAt (k := m) (by rw [hvl]; exact hmn)
      cases e
      obtain ⟨pr, cr, rfl, hrr⟩ := hou.rd
      have hrcap := hou.cap
      have y5 := hplF.box.cell 5 rfl
      have y6 := hplF.box.cell 6 rfl
      have t0 := bn.cell 0 rfl
      have hfd := hDf m
      have hfc := hCf m
      have hml : m < vs.length := by rw [hvl]; exact hmn
      have HSET := Lib.hid (fun y => hplF.setVal hml y)
      have HML := Lib.hid hml
      have HPL := Lib.hid hplF
      have HDC : Hid (D ≠ C) := fun e => by
        obtain ⟨cu1, h1⟩ := hplF.val.typedI (k := D) rfl
        obtain ⟨cu2, h2⟩ := hplF.row.typedV (k := C) rfl
        rw [e] at h1
        exact typed_ne h1 h2 (by decide)
      have HVL := Lib.hid hvl
      have HHM := Lib.hid hm
      generalize hrow : st.getD m [] = row at hrr hoo HVS hr16 hcu y5 y6 hrcap
      have HROW := Lib.hid hrow
      clear hplF hoc hsm hmem hm hvl hml hDf hCf hrow hro hou
      by_cases hk6 : nd.kind = 6
      · have q6 : (nd.kind == 6) = true := by rw [beq_iff_eq]; exact hk6
        have hr1 := hoo.s (Or.inl hk6)
        have hr0 : 0 < row.length := hr1
        obtain ⟨rb, ro, rfl, hrb, hrc⟩ := hrr.pos (k := 0) hr1
        have e0 := hrc 0 hr1
        rw [Nat.add_zero] at e0
        have hY : Hid (outP nd x.tables (inF nd fr vs) row = row[0]) := by unfold Hid; rw [outP_delay hk6, getD_at2 hr1]
        generalize row[0] = y at e0 hY
        rw [hY.out] at HVS
        have hs := HSET.out y
        rw [← HVS.out] at hs
        have hs2 := Lib.hid ((hs.below (belowDrew _)).weaken (Q := fun m' => (m' : Int) ∈ os.drop (k + 1) ∨ (x.nodes.getD m' ⟨0, 0, 0, []⟩).kind = 6) (fun m' h => h.elim (fun h => .inl (HDN.out _ h).1) .inr))
        have HBS : Hid (Below w0.heap.size w0 (F.setCell ⟨D, m, none⟩ (.int .i64 y)).drew) := by
          have h1 := hbF.setCell (p := ⟨D, m, none⟩) hDB (.int .i64 y)
          exact ⟨h1.os, h1.tape, h1.output, h1.size, h1.block⟩
        clear hs hrc hrr hnd hoo hrn r2 bn HPL HSET hY hr1
        generalize row.length = nr at hcu hr0 hr16 hrcap
        go_wp2_with fail
        refine wp_region_still_tail 15 (by kernel_rfl) (by kernel_rfl) ?_
        simp only [List.take_succ_cons, List.take_zero, List.drop_succ_cons, List.drop_zero]
        change wpStill _ _ (World.drew _) _ _ _
        repeat (first | still_step | (refine wpStill_step (fun K hK => ?_); go_simp; refine ⟨_, (by fail), hK _ ?_⟩; clear hK K))
        refine wpStill_nil ?_
        change wpList _ _ _ _ _ (World.drew _)
        go_wp2_with fail
        go_roundw
        case rel => exact ⟨k + 1, by omega, by go_num, L1, hs2.out, HBS.out⟩
        case measure => simp [intOf] <;> omega
      · have q6 : (nd.kind == 6) = false := by rw [beq_eq_false_iff_ne]; exact hk6
        obtain ⟨-, hrv⟩ := HPL.out.val.rd_at2
        generalize hins : inF nd fr vs = ins at hoo HVS
        generalize hyy : outP nd x.tables ins row = y at HVS
        have INP : Hid (∀ W, Below F.heap.size F W → Calls Try.prog 50 #[.pointer (some ⟨g, 0, none⟩), .agg #[.int .i64 nd.kind, .int .i64 nd.a, .int .i64 nd.b, .slice qn nd.src.length dn], .slice pf fr.length cf] W fun e w' => ∃ v, e = .returned v ∧ OwnI W.heap.size w' v ins ∧ Below W.heap.size W w') := fun W hW => by
          have hw0 := hbF.trans (hW.mono hbF.size)
          have h5 := (HPL.out.below hW).box.cell 5 rfl
          rw [← HVL.out] at h5
          have := inputs_any (x := nd) (vs := vs) (cf := cf) (dn := dn) W h5 (hrn.below hw0) (hf.below hw0) (hrv.below hW) hnd.2.1 (by rw [HVL.out]; exact hnd.2.2) hnl
          rw [hins] at this
          exact this
        have STP : Hid (∀ W ip ic, Below F.heap.size F W → RdI W ip ins → Calls Try.prog 49 #[.agg #[.int .i64 nd.kind, .int .i64 nd.a, .int .i64 nd.b, .slice qn nd.src.length dn], .slice p1 x.tables.length c1, .slice ip ins.length ic, .slice pr row.length cr] W fun e w' => ∃ u, e = .returned (.tuple #[.int .i64 y, u]) ∧ OwnI W.heap.size w' u (nextP nd ins row y) ∧ Below W.heap.size W w') := fun W ip ic hW hi => by
          have hw0 := hbF.trans (hW.mono hbF.size)
          have := step_v (x := nd) (ct := c1) (cx := ic) (cs := cr) W ⟨qn, dn, rfl, hrn.below hw0⟩ (r1.below hw0) hi (hrr.below hW) hrcap hr16 hoo
          rw [hyy] at this
          exact this
        have CKB : Hid (∀ W, Box W g [.int .i64 x.inputs, .slice p1 x.tables.length c1, .slice (some ⟨b, o, none⟩) x.nodes.length c2, .slice p3 x.outputs.length c3, .slice (some ⟨ob, oo, none⟩) os.length co, .slice (some ⟨D, 0, none⟩) x.nodes.length cv, .slice (some ⟨C, 0, none⟩) x.nodes.length cc] 62 → Box W gn [.int .i64 nd.kind, .int .i64 nd.a, .int .i64 nd.b, .slice qn nd.src.length dn] 74 → W.cell? ⟨g, 5, none⟩ = some (.slice (some ⟨D, 0, none⟩) x.nodes.length cv) ∧ W.cell? ⟨g, 6, none⟩ = some (.slice (some ⟨C, 0, none⟩) x.nodes.length cc) ∧ W.cell? ⟨g, 1, none⟩ = some (.slice p1 x.tables.length c1) ∧ W.cell? ⟨gn, 0, none⟩ = some (.int .i64 nd.kind) ∧ W.cell? ⟨gn, 1, none⟩ = some (.int .i64 nd.a) ∧ W.cell? ⟨gn, 2, none⟩ = some (.int .i64 nd.b) ∧ W.cell? ⟨gn, 3, none⟩ = some (.slice qn nd.src.length dn)) := fun W h1 h2 => ⟨h1.cell 5 rfl, h1.cell 6 rfl, h1.cell 1 rfl, h2.cell 0 rfl, h2.cell 1 rfl, h2.cell 2 rfl, h2.cell 3 rfl⟩
        have HQ : Hid (∀ m' : Nat, ((m' : Int) ∈ os.drop (k + 1) ∨ (x.nodes.getD m' ⟨0, 0, 0, []⟩).kind = 6) → ((m' : Int) ∈ os.drop k ∨ (x.nodes.getD m' ⟨0, 0, 0, []⟩).kind = 6) ∧ m' ≠ m) := fun m' h => by
          rcases h with h | h
          · obtain ⟨h1, h2⟩ := HDN.out _ h
            exact ⟨.inl h1, fun e => h2 (by rw [e])⟩
          · exact ⟨.inr h, fun e => by rw [e, HKD.out] at h; exact hk6 h⟩
        have hcur := belowDrew F
        have hBw0 := hbF.size
        have u0 := CKB.out _ HPL.out.box bn
        clear hnd hoo hrn r2 hins hyy hrr HSET
        go_wp2_with fail
        have CKR : Hid (∀ W, Below F.heap.size F W → W.cell? ⟨g, 5, none⟩ = some (.slice (some ⟨D, 0, none⟩) x.nodes.length cv) ∧ W.cell? ⟨g, 6, none⟩ = some (.slice (some ⟨C, 0, none⟩) x.nodes.length cc) ∧ W.cell? ⟨g, 1, none⟩ = some (.slice p1 x.tables.length c1) ∧ W.cell? ⟨gn, 0, none⟩ = some (.int .i64 nd.kind) ∧ W.cell? ⟨gn, 1, none⟩ = some (.int .i64 nd.a) ∧ W.cell? ⟨gn, 2, none⟩ = some (.int .i64 nd.b) ∧ W.cell? ⟨gn, 3, none⟩ = some (.slice qn nd.src.length dn) ∧ W.cell? ⟨C, m, none⟩ = some (.slice pr row.length cr)) := fun W hW => by
          obtain ⟨h1, h2, h3, h4, h5, h6, h7⟩ := CKB.out _ (HPL.out.below hW).box (bn.below hW)
          exact ⟨h1, h2, h3, h4, h5, h6, h7, (hW.cell (p := ⟨C, m, none⟩) hCl).trans hcu⟩
        refine wp_region_plan (fun W => W.cell? ⟨g, 5, none⟩ = some (.slice (some ⟨D, 0, none⟩) x.nodes.length cv) ∧ W.cell? ⟨g, 6, none⟩ = some (.slice (some ⟨C, 0, none⟩) x.nodes.length cc) ∧ W.cell? ⟨g, 1, none⟩ = some (.slice p1 x.tables.length c1) ∧ W.cell? ⟨gn, 0, none⟩ = some (.int .i64 nd.kind) ∧ W.cell? ⟨gn, 1, none⟩ = some (.int .i64 nd.a) ∧ W.cell? ⟨gn, 2, none⟩ = some (.int .i64 nd.b) ∧ W.cell? ⟨gn, 3, none⟩ = some (.slice qn nd.src.length dn) ∧ W.cell? ⟨C, m, none⟩ = some (.slice pr row.length cr)) 32 [(0, 0), (1, 0), (2, 0), (3, 1), (4, 0), (5, 0), (6, 0), (7, 0), (8, 1), (9, 0), (10, 1), (11, 0), (12, 0), (13, 0), (14, 0), (15, 1), (16, 0), (17, 1), (18, 0), (20, 0), (21, 0), (22, 0), (23, 1), (24, 0), (25, 0), (26, 1), (19, 2), (27, 2), (28, 0), (29, 0), (30, 0), (31, 0), (32, 3), (33, 0), (34, 3)] (by kernel_rfl) (by kernel_rfl) (CKR.out _ hcur) ?_
        repeat ((first | refine wpPlan_take (v := ?_) rfl (by rfl) (by (intro w hSw; clear hSw; go_simp; try with_reducible rfl)) (fun _ _ _ h => h) ?_ | refine wpPlan_load (v := ?_) rfl (by rfl) (by (intro w hSw; (try dsimp only at hSw); go_simp; try with_reducible rfl)) (fun _ _ _ h => h) ?_); try simp only [Act.put, List.setIfInBounds_toArray, List.set_cons_zero, List.set_cons_succ])
        refine wpPlan_call rfl (by rfl) (fun K hK => ?_)
        go_simp
        refine (INP.out _ hcur).mono ?_; rintro e W1 ⟨v, rfl, hv, hb⟩; obtain ⟨ip, ic, rfl, hri⟩ := hv.rd; have hcur := hcur.trans (hb.mono hcur.size)
        refine hK _ _ (CKR.out _ hcur) ?_
        clear hK K
        try simp only [Act.put, List.setIfInBounds_toArray, List.set_cons_zero, List.set_cons_succ]
        repeat ((first | refine wpPlan_take (v := ?_) rfl (by rfl) (by (intro w hSw; clear hSw; go_simp; try with_reducible rfl)) (fun _ _ _ h => h) ?_ | refine wpPlan_load (v := ?_) rfl (by rfl) (by (intro w hSw; (try dsimp only at hSw); go_simp; try with_reducible rfl)) (fun _ _ _ h => h) ?_); try simp only [Act.put, List.setIfInBounds_toArray, List.set_cons_zero, List.set_cons_succ])
        refine wpPlan_call rfl (by rfl) (fun K hK => ?_)
        go_simp
        refine (STP.out _ ip ic hcur hri).mono ?_; rintro e W2 ⟨u2, rfl, hu2, hb⟩; have hsz1 := hcur.size; have hcur := hcur.trans (hb.mono hcur.size); obtain ⟨q2, k2, hq2, -⟩ := hu2.rd; subst hq2
        refine hK _ _ (CKR.out _ hcur) ?_
        clear hK K
        try simp only [Act.put, List.setIfInBounds_toArray, List.set_cons_zero, List.set_cons_succ]
        have hpw := HPL.out.below hcur
        have hs1 := hpw.setVal (k := m) HML.out y
        have hs12 := hs1.setRow (k := m) hmn (hu2.offCell (Nat.le_trans hBw0 hsz1) (a := ⟨D, m, none⟩) (show D < _ by omega)) HQ.out
        obtain ⟨⟨a1, x1⟩, x2, -, -⟩ := hpw.cells HML.out hmn (Or.inl HDM.out)
        obtain ⟨-, -, ⟨a4, x7⟩, x8⟩ := hs1.cells (by rw [List.length_set]; exact HML.out) hmn (Or.inl HDM.out)
        rw [← HVS.out] at hs12
        have HFIN := Lib.hid hs12
        have HBW : Hid (Below w0.heap.size w0 ((W2.setCell ⟨D, m, none⟩ (.int .i64 y)).setCell ⟨C, m, none⟩ (.slice q2 (nextP nd ins row y).length k2))) := ((hbF.trans (hcur.mono hbF.size)).setCell (p := ⟨D, m, none⟩) hDB _).setCell (p := ⟨C, m, none⟩) hCB _
        clear hpw hs1 hs12 hu2 hri hv
        repeat ((first | refine wpPlan_take (v := ?_) rfl (by rfl) (by (intro w hSw; clear hSw; go_simp; try with_reducible rfl)) (fun _ _ _ h => h) ?_ | refine wpPlan_load (v := ?_) rfl (by rfl) (by (intro w hSw; (try dsimp only at hSw); go_simp; try with_reducible rfl)) (fun _ _ _ h => h) ?_); try simp only [Act.put, List.setIfInBounds_toArray, List.set_cons_zero, List.set_cons_succ])
        refine wpPlan_store rfl (by rfl) (fun K hK => ?_)
        go_simp
        refine hK _ _ ?_
        clear hK K
        try simp only [Act.put, List.setIfInBounds_toArray, List.set_cons_zero, List.set_cons_succ]
        repeat ((first | refine wpPlan_take (v := ?_) rfl (by rfl) (by (intro w hSw; clear hSw; go_simp; try with_reducible rfl)) (fun _ _ _ h => h) ?_ | refine wpPlan_load (v := ?_) rfl (by rfl) (by (intro w hSw; (try dsimp only at hSw); go_simp; try with_reducible rfl)) (fun _ _ _ h => h) ?_); try simp only [Act.put, List.setIfInBounds_toArray, List.set_cons_zero, List.set_cons_succ])
        refine wpPlan_store rfl (by rfl) (fun K hK => ?_)
        go_simp
        refine hK _ _ ?_
        clear hK K
        try simp only [Act.put, List.setIfInBounds_toArray, List.set_cons_zero, List.set_cons_succ]
        refine wpPlan_nil ?_
        go_wp2_with fail
        go_roundw
        case rel => exact ⟨k + 1, by omega, by go_num, _, HFIN.out, HBW.out⟩
        case measure => simp [intOf] <;> omega
    · obtain rfl : k = os.length := by omega
      rw [List.take_length] at hpl
      have x2 := hpl.box.cell 2 rfl
      have HV1 := Lib.hid (valsF_smps HOK.out HOM.out)
      have HVL1 := Lib.hid (valsF_length x st fr os)
      have HPL := Lib.hid (hpl.weaken (Q := fun m' => 0 ≤ m' ∧ (x.nodes.getD m' ⟨0, 0, 0, []⟩).kind = 6) (fun m' h => .inr h.2))
      generalize hvs : valsF x st fr os = vs at hpl HV1 HVL1 HPL
      have HVS := Lib.hid hvs
      clear hpl hvs
      go_wp2_with fail
      clear x2
      go_loopw [84] (fun i wr => ∃ j : Nat, j ≤ x.nodes.length ∧ i = .int .i64 j ∧ ∃ L', PlayAt w0.heap.size wr g [.int .i64 x.inputs, .slice p1 x.tables.length c1, .slice p2 x.nodes.length c2, .slice p3 x.outputs.length c3, .slice po os.length co, .slice pv x.nodes.length cv, .slice pc x.nodes.length cc] (.slice po os.length co) (.slice pv x.nodes.length cv) (.slice pc x.nodes.length cc) x.nodes.length os vs st (fun m' => j ≤ m' ∧ (x.nodes.getD m' ⟨0, 0, 0, []⟩).kind = 6) L' ∧ Below w0.heap.size w0 wr) (fun i _ => x.nodes.length - (intOf i).toNat)
      case atStart => exact ⟨0, Nat.zero_le _, rfl, L1, HPL.out, hbel⟩
      case round =>
        obtain ⟨j, hj, rfl, L2, hpl, hbel2⟩ := hrel
        clear HPL hbel
        obtain ⟨wj, rfl⟩ : ∃ wj : World, wj = wr := ⟨_, rfl⟩
        by_cases hjn : j < x.nodes.length
        · have hoo := (HOK.out.out HV1.out hjn).1
          have hnd := HOK.out.nd hjn
          have hrl := (HOK.out.s j hjn).1
          have hrs := startL_length (startOk_of hnd.1)
          have HKD : Hid ((x.nodes.getD j ⟨0, 0, 0, []⟩) = x.nodes[j]) := by unfold Hid; rw [List.getD_eq_getElem?_getD, List.getElem?_eq_getElem hjn]; rfl
          obtain ⟨b, o, rfl, hbl, hc⟩ := r2.pos hjn
          have hnode := hc j hjn
          have hnl : x.nodes[j].src.length ≤ 1048576 := by
            have h1 := hnd.1
            rw [nodeB_split] at h1
            simp only [Bool.and_eq_true, beq_iff_eq] at h1
            have := kAr_le3' h1.1
            have := h1.2.2.1
            omega
          have hr16 : (st.getD j []).length ≤ 16 := by omega
          clear hrl
          generalize x.nodes[j] = nd at hnode hoo hnd hnl HKD hrs
          obtain ⟨n0, n1, n2, qn, dn, n3, hrn⟩ := hnode
          have z0 := (hbel2.cell (p := ⟨b, o + j * 4, none⟩) hbl).trans n0
          have z1 := (hbel2.cell (p := ⟨b, o + j * 4 + 1, none⟩) hbl).trans n1
          have z2 := (hbel2.cell (p := ⟨b, o + j * 4 + 2, none⟩) hbl).trans n2
          have z3 := (hbel2.cell (p := ⟨b, o + j * 4 + 3, none⟩) hbl).trans n3
          obtain ⟨F, hF⟩ : ∃ F, F = wj.alloc (.cells #[.int .i64 nd.kind, .int .i64 nd.a, .int .i64 nd.b, .slice qn nd.src.length dn] 74) := ⟨_, rfl⟩
          obtain ⟨gn, hgn⟩ : ∃ g, g = wj.heap.size := ⟨_, rfl⟩
          have hBF : Below wj.heap.size wj F := by rw [hF]; exact (Below.refl _ _).alloc (Nat.le_refl _) _
          have bn : Box F gn [.int .i64 nd.kind, .int .i64 nd.a, .int .i64 nd.b, .slice qn nd.src.length dn] 74 := by rw [hF, hgn]; exact Box.newAt _ _ _ rfl
          have hplF := hpl.below hBF
          have hbF := hbel2.trans (hBF.mono hbel2.size)
          have HF := Lib.hid hF
          have HGN := Lib.hid hgn
          clear hF hgn
          go_upto_region 11 with fail
          rw [← HF.out, ← HGN.out]
          clear z0 z1 z2 z3
          have t0 := bn.cell 0 rfl
          by_cases hk6 : nd.kind = 6
          case neg =>
            have q6 : (nd.kind == 6) = false := by rw [beq_eq_false_iff_ne]; exact hk6
            have HW := Lib.hid (hplF.weaken (Q := fun m' => j + 1 ≤ m' ∧ (x.nodes.getD m' ⟨0, 0, 0, []⟩).kind = 6) (fun m' h => ⟨by omega, h.2⟩))
            clear hplF hpl hnd hoo hc
            go_wp2_with fail
            go_roundw
            case rel => exact ⟨j + 1, by omega, by go_num, L2, HW.out, hbF⟩
            case measure => simp [intOf] <;> omega
          have q6 : (nd.kind == 6) = true := by rw [beq_iff_eq]; exact hk6
          have hPj : j ≤ j ∧ (x.nodes.getD j ⟨0, 0, 0, []⟩).kind = 6 := ⟨Nat.le_refl _, by rw [HKD.out]; exact hk6⟩
          obtain ⟨C, u, rfl, hCl, hCB, hcu, hou, hCf⟩ := hplF.rowAt hjn hPj
          obtain ⟨pr, cr, rfl, hrr⟩ := hou.rd
          have hrcap := hou.cap
          have hfc := hCf j
          have hoo6 := hoo.delay hk6
          have HPL := Lib.hid hplF
          generalize hrow : st.getD j [] = row at hrr hoo6 hr16 hcu hrcap
          obtain ⟨-, hrv⟩ := HPL.out.val.rd_at2
          generalize hins : inF nd fr vs = ins at hoo6
          have INP : Hid (∀ W, Below F.heap.size F W → Calls Try.prog 50 #[.pointer (some ⟨g, 0, none⟩), .agg #[.int .i64 nd.kind, .int .i64 nd.a, .int .i64 nd.b, .slice qn nd.src.length dn], .slice pf fr.length cf] W fun e w' => ∃ v, e = .returned v ∧ OwnI W.heap.size w' v ins ∧ Below W.heap.size W w') := fun W hW => by
            have hw0 := hbF.trans (hW.mono hbF.size)
            have h5 := (HPL.out.below hW).box.cell 5 rfl
            rw [← HVL1.out] at h5
            have := inputs_any (x := nd) (vs := vs) (cf := cf) (dn := dn) W h5 (hrn.below hw0) (hf.below hw0) (hrv.below hW) hnd.2.1 (by rw [HVL1.out]; exact hnd.2.2) hnl
            rw [hins] at this
            exact this
          have STP : Hid (∀ W ip ic, Below F.heap.size F W → RdI W ip ins → Calls Try.prog 49 #[.agg #[.int .i64 nd.kind, .int .i64 nd.a, .int .i64 nd.b, .slice qn nd.src.length dn], .slice none 0 0, .slice ip ins.length ic, .slice pr row.length cr] W fun e w' => ∃ y u, e = .returned (.tuple #[.int .i64 y, u]) ∧ OwnI W.heap.size w' u (nextP nd ins row y) ∧ Below W.heap.size W w') := fun W ip ic hW hi => by
            have hw0 := hbF.trans (hW.mono hbF.size)
            have := step_v (x := nd) (tb := []) (pt := none) (ct := 0) (cx := ic) (cs := cr) W ⟨qn, dn, rfl, hrn.below hw0⟩ ⟨by simp [maxLen], .inl rfl, by simp⟩ hi (hrr.below hW) hrcap hr16 hoo6
            exact this.mono fun e w' ⟨u, h1, h2, h3⟩ => ⟨_, u, h1, h2, h3⟩
          have CKR : Hid (∀ W, Below F.heap.size F W → W.cell? ⟨g, 5, none⟩ = some (.slice pv x.nodes.length cv) ∧ W.cell? ⟨g, 6, none⟩ = some (.slice (some ⟨C, 0, none⟩) x.nodes.length cc) ∧ W.cell? ⟨gn, 0, none⟩ = some (.int .i64 nd.kind) ∧ W.cell? ⟨gn, 1, none⟩ = some (.int .i64 nd.a) ∧ W.cell? ⟨gn, 2, none⟩ = some (.int .i64 nd.b) ∧ W.cell? ⟨gn, 3, none⟩ = some (.slice qn nd.src.length dn) ∧ W.cell? ⟨C, j, none⟩ = some (.slice pr row.length cr)) := fun W hW => ⟨(HPL.out.below hW).box.cell 5 rfl, (HPL.out.below hW).box.cell 6 rfl, (bn.below hW).cell 0 rfl, (bn.below hW).cell 1 rfl, (bn.below hW).cell 2 rfl, (bn.below hW).cell 3 rfl, (hW.cell (p := ⟨C, j, none⟩) hCl).trans hcu⟩
          have hcur := belowDrew F
          have hBw0 := hbF.size
          have HPJ := Lib.hid hPj
          clear hnd hoo hoo6 hrn hc hins hrr hpl hplF hou hCf hrow hrv hk6 hPj
          go_wp2_with fail
          refine wp_region_plan (fun W => W.cell? ⟨g, 5, none⟩ = some (.slice pv x.nodes.length cv) ∧ W.cell? ⟨g, 6, none⟩ = some (.slice (some ⟨C, 0, none⟩) x.nodes.length cc) ∧ W.cell? ⟨gn, 0, none⟩ = some (.int .i64 nd.kind) ∧ W.cell? ⟨gn, 1, none⟩ = some (.int .i64 nd.a) ∧ W.cell? ⟨gn, 2, none⟩ = some (.int .i64 nd.b) ∧ W.cell? ⟨gn, 3, none⟩ = some (.slice qn nd.src.length dn) ∧ W.cell? ⟨C, j, none⟩ = some (.slice pr row.length cr)) 22 [(0, 0), (1, 0), (2, 0), (3, 1), (4, 0), (5, 1), (6, 0), (7, 1), (8, 0), (10, 0), (11, 0), (12, 0), (13, 1), (14, 0), (15, 0), (16, 1), (9, 2), (17, 2), (18, 0), (19, 0), (20, 0), (21, 0), (22, 3)] (by kernel_rfl) (by kernel_rfl) (CKR.out _ hcur) ?_
          repeat ((first | refine wpPlan_take (v := ?_) rfl (by rfl) (by (intro w hSw; clear hSw; go_simp; try with_reducible rfl)) (fun _ _ _ h => h) ?_ | refine wpPlan_load (v := ?_) rfl (by rfl) (by (intro w hSw; (try dsimp only at hSw); go_simp; try with_reducible rfl)) (fun _ _ _ h => h) ?_); try simp only [Act.put, List.setIfInBounds_toArray, List.set_cons_zero, List.set_cons_succ])
          refine wpPlan_call rfl (by rfl) (fun K hK => ?_)
          go_simp
          refine (INP.out _ hcur).mono ?_; rintro e W1 ⟨v, rfl, hv, hb⟩; obtain ⟨ip, ic, rfl, hri⟩ := hv.rd; have hcur := hcur.trans (hb.mono hcur.size)
          refine hK _ _ (CKR.out _ hcur) ?_
          clear hK K
          try simp only [Act.put, List.setIfInBounds_toArray, List.set_cons_zero, List.set_cons_succ]
          repeat ((first | refine wpPlan_take (v := ?_) rfl (by rfl) (by (intro w hSw; clear hSw; go_simp; try with_reducible rfl)) (fun _ _ _ h => h) ?_ | refine wpPlan_load (v := ?_) rfl (by rfl) (by (intro w hSw; (try dsimp only at hSw); go_simp; try with_reducible rfl)) (fun _ _ _ h => h) ?_); try simp only [Act.put, List.setIfInBounds_toArray, List.set_cons_zero, List.set_cons_succ])
          refine wpPlan_call rfl (by rfl) (fun K hK => ?_)
          go_simp
          refine (STP.out _ ip ic hcur hri).mono ?_; rintro e W2 ⟨y, u2, rfl, hu2, hb⟩; have hsz1 := hcur.size; have hcur := hcur.trans (hb.mono hcur.size); obtain ⟨q2, k2, hq2, -⟩ := hu2.rd; subst hq2
          refine hK _ _ (CKR.out _ hcur) ?_
          clear hK K
          try simp only [Act.put, List.setIfInBounds_toArray, List.set_cons_zero, List.set_cons_succ]
          have hpw := HPL.out.below hcur
          have hs12 := hpw.setRow (k := j) (Q := fun m' => j + 1 ≤ m' ∧ (x.nodes.getD m' ⟨0, 0, 0, []⟩).kind = 6) hjn (hu2.mono (Nat.le_trans hBw0 hsz1)) (fun m' h => ⟨⟨by omega, h.2⟩, by omega⟩)
          obtain ⟨C', u9, e9, -, -, x7, -, x8⟩ := hpw.rowAt hjn HPJ.out
          cases e9
          have x9 := x8 j
          have HFIN := Lib.hid hs12
          have HBW : Hid (Below w0.heap.size w0 (W2.setCell ⟨C, j, none⟩ (.slice q2 (nextP nd ins row y).length k2))) := (hbF.trans (hcur.mono hbF.size)).setCell (p := ⟨C, j, none⟩) hCB _
          clear hpw hs12 hu2 hri hv x8
          repeat ((first | refine wpPlan_take (v := ?_) rfl (by rfl) (by (intro w hSw; clear hSw; go_simp; try with_reducible rfl)) (fun _ _ _ h => h) ?_ | refine wpPlan_load (v := ?_) rfl (by rfl) (by (intro w hSw; (try dsimp only at hSw); go_simp; try with_reducible rfl)) (fun _ _ _ h => h) ?_); try simp only [Act.put, List.setIfInBounds_toArray, List.set_cons_zero, List.set_cons_succ])
          refine wpPlan_store rfl (by rfl) (fun K hK => ?_)
          go_simp
          refine hK _ _ ?_
          clear hK K
          try simp only [Act.put, List.setIfInBounds_toArray, List.set_cons_zero, List.set_cons_succ]
          refine wpPlan_nil ?_
          go_wp2_with fail
          go_roundw
          case rel => exact ⟨j + 1, by omega, by go_num, _, HFIN.out, HBW.out⟩
          case measure => simp [intOf] <;> omega
        · obtain rfl : j = x.nodes.length := by omega
          have HW := Lib.hid (hpl.weaken (Q := fun _ => False) (fun m' h => h.elim))
          clear hpl
          go_wp2_with fail
          go_end0
          exact ⟨⟨_, rfl⟩, L2, by rw [HVS.out]; exact HW.out, hbel2⟩
end Go.Proofs.Ytbjpianbeebmeab
