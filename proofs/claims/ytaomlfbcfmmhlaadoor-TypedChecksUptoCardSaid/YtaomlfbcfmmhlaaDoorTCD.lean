/-
  Texts joined: TyMem TyOps.
-/
import Derived.Test.YtaomlfbcfmmhlaaDoorTCB
import Derived.Test.YtaomlfbcfmmhlaaDoorProg
import Derived.Deep.RegionHeld3
import Derived.Maps.AppendAt
import Derived.RegionTactic
import Derived.BigRegion

/-
  The functions of package api in memory; the checker of package typed in memory: its box, its row of scopes, the map of each scope; what a store, a new scope, a new name do to it.
-/
namespace Go.Pst
open Go.RowKit
set_option linter.unusedVariables false
set_option linter.unusedSimpArgs false

def rParam : Rep (ByteArray × Int) := fun _ _ cs x => cs = [.string x.1, .int .i64 x.2] ∧ x.1.size ≤ maxLen ∧ InI x.2
instance : Good rParam := ⟨fun _ _ h => h⟩
def rFunc (d : Nat) : Rep PFunc := fun S w cs x => ∃ v1 v3, cs = [.string x.name, v1, .int .i64 x.result, v3] ∧ (x.name.size ≤ maxLen ∧ InI x.result) ∧ rSlice 2 rParam S w [v1] x.params ∧ rSlice 7 (rStmt d) S w [v3] x.body
instance good_func (d : Nat) : Good (rFunc d) := ⟨by
  rintro S S' w w' cs x hk hs ⟨v1, v3, h1, h2, h3, h4⟩
  exact ⟨v1, v3, h1, h2, Good.keep hk hs h3, Good.keep hk hs h4⟩⟩
abbrev rFuncs (d : Nat) : Rep (List PFunc) := rSlice 4 (rFunc d)
theorem rFuncs_val {d : Nat} {S : Nat → Prop} {w : World} {v : Value} {l : List PFunc} (h : rFuncs d S w [v] l) :
    ∃ a cap, v = .slice a l.length cap ∧ l.length ≤ cap ∧ cap ≤ maxLen ∧
    ∀ i (h : i < l.length), ∃ b off v1 v3, a = some ⟨b, off, none⟩ ∧ S b ∧ b < w.heap.size ∧
      w.cell? ⟨b, off + i * 4, none⟩ = some (.string l[i].name) ∧ w.cell? ⟨b, off + i * 4 + 1, none⟩ = some v1 ∧ w.cell? ⟨b, off + i * 4 + 2, none⟩ = some (.int .i64 l[i].result) ∧ w.cell? ⟨b, off + i * 4 + 3, none⟩ = some v3 ∧
      l[i].name.size ≤ maxLen ∧ InI l[i].result ∧ rSlice 2 rParam S w [v1] l[i].params ∧ rSlice 7 (rStmt d) S w [v3] l[i].body := by
  obtain ⟨a, cap, h1, h2, h3, h4⟩ := rSlice_val h
  refine ⟨a, cap, h1, h2, h3, fun i hi => ?_⟩
  obtain ⟨b, off, es, ha, hS, hb, hl, hc, v1, v3, rfl, h5, h6, h7⟩ := h4 i hi
  exact ⟨b, off, v1, v3, ha, hS, hb, hc 0 (by decide), hc 1 (by decide), hc 2 (by decide), hc 3 (by decide), h5.1, h5.2, h6, h7⟩
theorem rParams_val {S : Nat → Prop} {w : World} {v : Value} {l : List (ByteArray × Int)} (h : rSlice 2 rParam S w [v] l) :
    ∃ a cap, v = .slice a l.length cap ∧ l.length ≤ cap ∧ cap ≤ maxLen ∧
    ∀ i (h : i < l.length), ∃ b off, a = some ⟨b, off, none⟩ ∧ S b ∧ b < w.heap.size ∧
      w.cell? ⟨b, off + i * 2, none⟩ = some (.string l[i].1) ∧ w.cell? ⟨b, off + i * 2 + 1, none⟩ = some (.int .i64 l[i].2) ∧ l[i].1.size ≤ maxLen ∧ InI l[i].2 := by
  obtain ⟨a, cap, h1, h2, h3, h4⟩ := rSlice_val h
  refine ⟨a, cap, h1, h2, h3, fun i hi => ?_⟩
  obtain ⟨b, off, es, ha, hS, hb, hl, hc, rfl, h5, h6⟩ := h4 i hi
  exact ⟨b, off, ha, hS, hb, hc 0 (by decide), hc 1 (by decide), h5, h6⟩

/-- A map of names and their types reads as a scope. -/
def ScopeIs (m : IMap ByteArray) (g : Scope) : Prop := ∀ s, lookI m s = (lookT g s).map (Value.int .i64)
theorem ScopeIs.nil : ScopeIs [] [] := fun _ => rfl
theorem lookT_append (g : Scope) (s x : ByteArray) (t : Int) (h : lookT g s = none) : lookT (g ++ [(s, t)]) x = if s = x then some t else lookT g x := by
  induction g with
  | nil => simp [lookT]
  | cons p r ih =>
    obtain ⟨k, u⟩ := p
    unfold lookT at h
    split at h
    · cases h
    rename_i hk
    show (if k = x then some u else lookT (r ++ [(s, t)]) x) = _
    rw [ih h]
    by_cases e : k = x
    · subst e
      rw [if_pos rfl, if_neg (fun e => hk e.symm)]
      simp [lookT]
    · rw [if_neg e]
      simp [lookT, e]
theorem ScopeIs.put {m : IMap ByteArray} {g : Scope} (h : ScopeIs m g) (s : ByteArray) (t : Int) (hn : lookT g s = none) : ScopeIs (putI m s (.int .i64 t)) (g ++ [(s, t)]) := fun x => by
  rw [lookT_append g s x t hn]
  by_cases e : s = x
  · subst e; rw [if_pos rfl, lookI_put_same]; rfl
  · rw [if_neg e, lookI_put_other m _ e]; exact h x
theorem ScopeIs.over {m : IMap ByteArray} {g : Scope} (h : ScopeIs m g) (s : ByteArray) (t : Int) : ScopeIs (putI m s (.int .i64 t)) ((s, t) :: g) := fun x => by
  unfold lookT
  by_cases e : s = x
  · subst e; rw [if_pos rfl, lookI_put_same]; rfl
  · rw [if_neg e, lookI_put_other m _ e]; exact h x

/-- The map of each scope: the innermost first. -/
def MapsAt (w : World) (base : Nat) : List Nat → List Scope → Prop
  | [], [] => True
  | b :: bs, g :: G => (base ≤ b ∧ b ∉ bs ∧ ∃ m : IMap ByteArray, MapI w b m ∧ ScopeIs m g) ∧ MapsAt w base bs G
  | _, _ => False
def mapRow : List Nat → List Value
  | [] => []
  | b :: bs => mapRow bs ++ [.map (some b)]
theorem mapRow_length : ∀ bs : List Nat, (mapRow bs).length = bs.length
  | [] => rfl
  | b :: bs => by simp [mapRow, mapRow_length bs]
theorem MapsAt.len {w : World} {base : Nat} : ∀ {bs : List Nat} {G : List Scope}, MapsAt w base bs G → bs.length = G.length
  | [], [], _ => rfl
  | b :: bs, g :: G, h => by simp [MapsAt.len h.2]
  | [], _ :: _, h => h.elim
  | _ :: _, [], h => h.elim
theorem MapsAt.lt {w : World} {base : Nat} : ∀ {bs : List Nat} {G : List Scope}, MapsAt w base bs G → ∀ b ∈ bs, base ≤ b ∧ b < w.heap.size ∧ ∀ j v, w.cell? ⟨b, j, none⟩ ≠ some v
  | [], [], _, b, hb => absurd hb (by simp)
  | b :: bs, g :: G, h, k, hk => by
    rcases List.mem_cons.1 hk with rfl | hk
    · obtain ⟨h1, h2, m, h3, h4⟩ := h.1
      refine ⟨h1, h3.lt, fun j v hc => ?_⟩
      obtain ⟨es, clock, hb, _⟩ := h3
      simp [World.cell?, hb] at hc
    · exact MapsAt.lt h.2 k hk
  | [], _ :: _, h, _, _ => h.elim
  | _ :: _, [], h, _, _ => h.elim
theorem MapsAt.since {w w' : World} {base : Nat} {F : Nat → Prop} (hs : Since F w w') : ∀ {bs : List Nat} {G : List Scope}, MapsAt w base bs G → (∀ b ∈ bs, ¬ F b) → MapsAt w' base bs G
  | [], [], _, _ => trivial
  | b :: bs, g :: G, h, hF => by
    obtain ⟨h1, h2, m, h3, h4⟩ := h.1
    exact ⟨⟨h1, h2, m, h3.heap (hs.block b h3.lt (hF b (by simp))), h4⟩, MapsAt.since hs h.2 (fun k hk => hF k (by simp [hk]))⟩
  | [], _ :: _, h, _ => h.elim
  | _ :: _, [], h, _ => h.elim
end Go.Pst
namespace Go.Proofs.YtaomlfbcfmmhlaaDoor
open Go.RowKit Go.Pst
set_option linter.unusedVariables false
set_option linter.unusedSimpArgs false

/-- What the checker knows. -/
structure Chk where
  G : List Scope
  loops : Int
  depth : Int
  fault : Int

/-- The checker's blocks. -/
def ChkM (bc : Nat) (vS : Value) (bs : List Nat) (k : Nat) : Prop := k = bc ∨ vS.ownBlock = some k ∨ k ∈ bs
structure ChkAt (w : World) (base bc : Nat) (vf : Value) (cf : List Value) (vS : Value) (bs : List Nat) (st : Chk) : Prop where
  c0 : w.cell? ⟨bc, 0, none⟩ = some vf
  cl : cf.length = 4
  c1 : ∀ j (h : j < cf.length), w.cell? ⟨bc, 1 + j, none⟩ = some cf[j]
  c5 : w.cell? ⟨bc, 5, none⟩ = some vS
  c6 : w.cell? ⟨bc, 6, none⟩ = some (.int .i64 st.loops)
  c7 : w.cell? ⟨bc, 7, none⟩ = some (.int .i64 st.depth)
  c8 : w.cell? ⟨bc, 8, none⟩ = some (.int .i64 st.fault)
  z : ∀ j, w.frozen? ⟨bc, j, none⟩ = false
  lb : base ≤ bc ∧ bc < w.heap.size
  row : w.ownsRow base 186 1 vS st.G.length (mapRow bs)
  ne : vS.ownBlock ≠ some bc
  maps : MapsAt w base bs st.G
  big : base ≤ w.heap.size
namespace ChkAt
variable {w w' : World} {base bc : Nat} {vf : Value} {cf : List Value} {vS : Value} {bs : List Nat} {st : Chk} {F : Nat → Prop}
theorem mem_lt (h : ChkAt w base bc vf cf vS bs st) {k : Nat} (hk : ChkM bc vS bs k) : base ≤ k ∧ k < w.heap.size := by
  rcases hk with rfl | hk | hk
  · exact h.lb
  · exact h.row.lt k hk
  · exact ⟨(h.maps.lt k hk).1, (h.maps.lt k hk).2.1⟩
theorem map_ne (h : ChkAt w base bc vf cf vS bs st) {k : Nat} (hk : k ∈ bs) : k ≠ bc ∧ vS.ownBlock ≠ some k := by
  have h1 := (h.maps.lt k hk).2.2
  refine ⟨fun e => h1 0 _ (e ▸ h.c0), fun e => ?_⟩
  have hl : 0 < (mapRow bs).length := by rw [mapRow_length]; exact List.length_pos_of_mem hk
  obtain ⟨g, cap, hv, -, -, -, hc, -⟩ := rowGet h.row (i := 0) (u := (mapRow bs)[0]) (by simp [hl])
  rw [hv] at e
  have : g = k := by simpa [Value.ownBlock] using e
  subst this
  exact h1 0 _ hc
/-- Nothing of the checker's has been written. -/
theorem since (h : ChkAt w base bc vf cf vS bs st) (hs : Since F w w') (hF : ∀ k, F k → ¬ ChkM bc vS bs k) : ChkAt w' base bc vf cf vS bs st := by
  have hb : ¬ F bc := fun f => hF _ f (Or.inl rfl)
  have hc := fun j => hs.cell (o := j) h.lb.2 hb
  exact { c0 := (hc _).trans h.c0, cl := h.cl, c1 := fun j hj => (hc _).trans (h.c1 j hj), c5 := (hc _).trans h.c5, c6 := (hc _).trans h.c6, c7 := (hc _).trans h.c7, c8 := (hc _).trans h.c8, z := fun j => (hs.frozen h.lb.2 hb).trans (h.z j), lb := ⟨h.lb.1, Nat.lt_of_lt_of_le h.lb.2 hs.size⟩, row := hs.row h.row (fun k hk f => hF k f (Or.inr (Or.inl hk))), ne := h.ne, maps := h.maps.since hs (fun k hk f => hF k f (Or.inr (Or.inr hk))), big := Nat.le_trans h.big hs.size }
/-- A number of the checker's box is set. -/
theorem set (h : ChkAt w base bc vf cf vS bs st) (j : Nat) (x : Int) (st' : Chk) (hG : st'.G = st.G) (hj : j = 6 ∨ j = 7 ∨ j = 8) (h6 : st'.loops = if j = 6 then x else st.loops) (h7 : st'.depth = if j = 7 then x else st.depth) (h8 : st'.fault = if j = 8 then x else st.fault) :
    ChkAt (w.setCell ⟨bc, j, none⟩ (.int .i64 x)) base bc vf cf vS bs st' := by
  have hs : Since (fun k => k = bc) w (w.setCell ⟨bc, j, none⟩ (.int .i64 x)) := Since.setCell w ⟨bc, j, none⟩ (.int .i64 x)
  have get : ∀ i y v, w.cell? ⟨bc, i, none⟩ = some y → (if j = i then v = .int .i64 x else v = y) → (w.setCell ⟨bc, j, none⟩ (.int .i64 x)).cell? ⟨bc, i, none⟩ = some v := by
    intro i y v hi hv
    by_cases e : j = i
    · subst e
      rw [if_pos rfl] at hv
      subst hv
      exact World.cell?_setCell_same _ _ _ hi
    · rw [if_neg e] at hv
      subst hv
      rw [World.cell?_setCell_other (h := fun h => e (by injection h))]
      exact hi
  have far : ∀ i y, i < 6 → w.cell? ⟨bc, i, none⟩ = some y → (w.setCell ⟨bc, j, none⟩ (.int .i64 x)).cell? ⟨bc, i, none⟩ = some y := fun i y hi hy => get i y y hy (by rw [if_neg (by omega)])
  exact { c0 := far _ _ (by decide) h.c0, cl := h.cl, c1 := fun k hk => far _ _ (by have := h.cl; omega) (h.c1 k hk), c5 := far _ _ (by decide) h.c5, c6 := get _ _ _ h.c6 (by split <;> simp_all), c7 := get _ _ _ h.c7 (by split <;> simp_all), c8 := get _ _ _ h.c8 (by split <;> simp_all), z := fun i => (by rw [World.frozen?_setCell]; exact h.z i), lb := ⟨h.lb.1, by simpa using h.lb.2⟩, row := by rw [hG]; exact hs.row h.row (fun k hk e => h.ne (by rw [hk, show k = bc from e])), ne := h.ne, maps := by rw [hG]; exact h.maps.since hs (fun k hk e => (h.map_ne hk).1 e), big := by simpa using h.big }
/-- What is new of the checker's blocks. -/
def NewM (w : World) (bc : Nat) (vS vS' : Value) (bs bs' : List Nat) : Prop := ∀ k, ChkM bc vS' bs' k → ChkM bc vS bs k ∨ w.heap.size ≤ k
/-- A new scope. -/
theorem push (h : ChkAt w base bc vf cf vS bs st) {w2 : World} {o : Obj} {vS' : Value} (hg : ((w.alloc (.map #[] 0)).alloc o).grownBy w2 vS.ownBlock)
    (ho : w2.ownsRow base 186 1 vS' (st.G.length + 1) (mapRow bs ++ [.map (some w.heap.size)])) (hloc : vS'.ownBlock = vS.ownBlock ∨ vS'.ownBlock = some (w.heap.size + 1 + 1)) :
    ChkAt (w2.setCell ⟨bc, 5, none⟩ vS') base bc vf cf vS' (w.heap.size :: bs) { st with G := [] :: st.G } ∧ Since (ChkM bc vS bs) w (w2.setCell ⟨bc, 5, none⟩ vS') ∧ NewM w bc vS vS' bs (w.heap.size :: bs) := by
  have s1 : Since (fun k => vS.ownBlock = some k) w w2 := ((Since.alloc _ _ _).trans (Since.alloc _ _ _)).trans (Since.grown hg)
  have s2 : Since (fun k => k = bc) w2 (w2.setCell ⟨bc, 5, none⟩ vS') := Since.setCell w2 ⟨bc, 5, none⟩ vS'
  have s3 : Since (ChkM bc vS bs) w (w2.setCell ⟨bc, 5, none⟩ vS') := (s1.mono (fun k e => Or.inr (Or.inl e))).trans (s2.mono (fun k e => Or.inl e))
  have hbw := h.lb.2
  have hz1 := s1.size
  have ne' : vS'.ownBlock ≠ some bc := fun e => by
    rcases hloc with h1 | h1
    · exact h.ne (h1.symm.trans e)
    · rw [h1] at e; have := Option.some.inj e; omega
  have hc := fun j => s1.cell (o := j) hbw h.ne
  have far : ∀ i y, i ≠ 5 → w.cell? ⟨bc, i, none⟩ = some y → (w2.setCell ⟨bc, 5, none⟩ vS').cell? ⟨bc, i, none⟩ = some y := fun i y hi hy => by
    rw [World.cell?_setCell_other (h := fun h => hi (by injection h with _ h; exact h.symm))]
    exact (hc i).trans hy
  have hnew : MapI (w2.setCell ⟨bc, 5, none⟩ vS') w.heap.size ([] : IMap ByteArray) := by
    have h0 := (MapI.made ByteArray w).alloc o
    have h1 : MapI w2 w.heap.size ([] : IMap ByteArray) := h0.kept hg (fun e => by have := (h.row.lt _ e.symm).2; omega)
    exact h1.setCell (by show w.heap.size ≠ bc; omega) _
  refine ⟨{ c0 := far _ _ (by decide) h.c0, cl := h.cl, c1 := fun k hk => far _ _ (by have := h.cl; omega) (h.c1 k hk), c5 := World.cell?_setCell_same _ _ _ ((hc 5).trans h.c5), c6 := far _ _ (by decide) h.c6, c7 := far _ _ (by decide) h.c7, c8 := far _ _ (by decide) h.c8, z := fun i => (by rw [World.frozen?_setCell]; exact (s1.frozen hbw h.ne).trans (h.z i)), lb := ⟨h.lb.1, Nat.lt_of_lt_of_le hbw s3.size⟩, row := ?_, ne := ne', maps := ⟨⟨h.big, fun hm => by have := (h.maps.lt _ hm).2.1; omega, [], hnew, ScopeIs.nil⟩, ?_⟩, big := Nat.le_trans h.big s3.size }, s3, fun k hk => ?_⟩
  · exact s2.row ho (fun k hk e => ne' (by rw [hk, show k = bc from e]))
  · exact (h.maps.since s1 (fun k hk e => (h.map_ne hk).2 e)).since s2 (fun k hk e => (h.map_ne hk).1 e)
  · rcases hk with rfl | hk | hk
    · exact Or.inl (Or.inl rfl)
    · rcases hloc with h1 | h1
      · exact Or.inl (Or.inr (Or.inl (h1.symm.trans hk)))
      · rw [h1] at hk; right; have := Option.some.inj hk; omega
    · rcases List.mem_cons.1 hk with rfl | hk
      · exact Or.inr (Nat.le_refl _)
      · exact Or.inl (Or.inr (Or.inr hk))
/-- The innermost scope is left. -/
theorem pop (h : ChkAt w base bc vf cf vS bs st) {g : Scope} {r : List Scope} (hG : st.G = g :: r) {gS cap : Nat} (hv : vS = .slice (some ⟨gS, 0, none⟩) (r.length + 1) cap) :
    ∃ b bs', bs = b :: bs' ∧ ChkAt (w.setCell ⟨bc, 5, none⟩ (.slice (some ⟨gS, 0, none⟩) r.length cap)) base bc vf cf (.slice (some ⟨gS, 0, none⟩) r.length cap) bs' { st with G := r } ∧ ∀ k, ChkM bc (.slice (some ⟨gS, 0, none⟩) r.length cap) bs' k → ChkM bc vS bs k := by
  have hm := h.maps
  have hrow := h.row
  rw [hG] at hm hrow
  cases bs with
  | nil => exact hm.elim
  | cons b bs' =>
    have s2 : Since (fun k => k = bc) w (w.setCell ⟨bc, 5, none⟩ (.slice (some ⟨gS, 0, none⟩) r.length cap)) := Since.setCell w ⟨bc, 5, none⟩ (.slice (some ⟨gS, 0, none⟩) r.length cap)
    have ne' : (Value.slice (some ⟨gS, 0, none⟩) r.length cap).ownBlock ≠ some bc := fun e => h.ne (by rw [hv]; exact e)
    have far : ∀ i y, i ≠ 5 → w.cell? ⟨bc, i, none⟩ = some y → (w.setCell ⟨bc, 5, none⟩ (.slice (some ⟨gS, 0, none⟩) r.length cap)).cell? ⟨bc, i, none⟩ = some y := fun i y hi hy => by
      rw [World.cell?_setCell_other (h := fun h => hi (by injection h with _ h; exact h.symm))]
      exact hy
    have hlen : (mapRow bs').length = r.length := by rw [mapRow_length]; exact hm.2.len
    refine ⟨b, bs', rfl, { c0 := far _ _ (by decide) h.c0, cl := h.cl, c1 := fun k hk => far _ _ (by have := h.cl; omega) (h.c1 k hk), c5 := World.cell?_setCell_same _ _ _ h.c5, c6 := far _ _ (by decide) h.c6, c7 := far _ _ (by decide) h.c7, c8 := far _ _ (by decide) h.c8, z := fun i => (by rw [World.frozen?_setCell]; exact h.z i), lb := ⟨h.lb.1, by simpa using h.lb.2⟩, row := ?_, ne := ne', maps := hm.2.since s2 (fun k hk e => (h.map_ne (List.mem_cons_of_mem _ hk)).1 e), big := by simpa using h.big }, fun k hk => ?_⟩
    · rw [hv] at hrow
      have h1 := rowShort (m := r.length) hrow (Nat.le_succ _)
      rw [show (mapRow (b :: bs')).take (r.length * 1) = mapRow bs' by
        show (mapRow bs' ++ [_]).take _ = _
        rw [Nat.mul_one, ← hlen]
        exact List.take_left] at h1
      exact s2.row h1 (fun k hk e => ne' (by rw [hk, show k = bc from e]))
    · rcases hk with rfl | hk | hk
      · exact Or.inl rfl
      · exact Or.inr (Or.inl (by rw [hv]; exact hk))
      · exact Or.inr (Or.inr (List.mem_cons_of_mem _ hk))
/-- The innermost scope's map has turned. -/
theorem put (h : ChkAt w base bc vf cf vS bs st) {b : Nat} {bs' : List Nat} {g g' : Scope} {r : List Scope} (hb : bs = b :: bs') (hG : st.G = g :: r) {m : IMap ByteArray} (hg : w.grownBy w' (some b)) (hm : MapI w' b m) (hs : ScopeIs m g') :
    ChkAt w' base bc vf cf vS bs { st with G := g' :: r } ∧ Since (ChkM bc vS bs) w w' := by
  have s1 : Since (fun k => some b = some k) w w' := Since.grown hg
  have hbm : b ∈ bs := by rw [hb]; simp
  obtain ⟨n1, n2⟩ := h.map_ne hbm
  have nb : ∀ {k}, some b = some k → k = b := fun e => (Option.some.inj e).symm
  have hF : ¬ (some b = some bc) := fun e => n1 (Option.some.inj e)
  have hc := fun j => s1.cell (o := j) h.lb.2 hF
  have hm0 := h.maps
  have hrow := h.row
  subst hb
  rw [hG] at hm0 hrow
  refine ⟨{ c0 := (hc _).trans h.c0, cl := h.cl, c1 := fun j hj => (hc _).trans (h.c1 j hj), c5 := (hc _).trans h.c5, c6 := (hc _).trans h.c6, c7 := (hc _).trans h.c7, c8 := (hc _).trans h.c8, z := fun j => (s1.frozen h.lb.2 hF).trans (h.z j), lb := ⟨h.lb.1, Nat.lt_of_lt_of_le h.lb.2 s1.size⟩, row := s1.row hrow (fun k hk e => n2 (by rw [hk, nb e])), ne := h.ne, maps := ⟨⟨hm0.1.1, hm0.1.2.1, m, hm, hs⟩, hm0.2.since s1 (fun k hk e => hm0.1.2.1 (nb e ▸ hk))⟩, big := Nat.le_trans h.big s1.size }, s1.mono (fun k e => Or.inr (Or.inr (by rw [nb e]; simp)))⟩
end ChkAt
end Go.Proofs.YtaomlfbcfmmhlaaDoor

/-
  typed's checker: wrong, want, value, open, close: contracts.
-/
namespace Go.Proofs.YtaomlfbcfmmhlaaDoor
open Go.RowKit Go.Pst
set_option linter.unusedVariables false
set_option linter.unusedSimpArgs false

def Chk.bad (st : Chk) (e : Int) : Chk := { st with fault := if st.fault = 0 then e else st.fault }
theorem Chk.bad_bad (st : Chk) {e e' : Int} (h : e ≠ 0) : (st.bad e).bad e' = st.bad e := by
  unfold Chk.bad
  by_cases hz : st.fault = 0 <;> simp [hz, h]
theorem typedWrong_any (w : World) (base bc : Nat) (vf : Value) (cf : List Value) (vS : Value) (bs : List Nat) (st : Chk) (h : ChkAt w base bc vf cf vS bs st) (e : Int) :
    Calls Tryd.prog 86 #[.pointer (some ⟨bc, 0, none⟩), .int .i64 e] w fun en w' => en = .returned (.int .i64 0) ∧ ChkAt w' base bc vf cf vS bs (st.bad e) ∧ Since (fun k => k = bc) w w' := by
  have c8 := h.c8
  have z8 := h.z 8
  have hlt := h.lb.2
  have H := Lib.hid h
  clear h
  go_enter Tryd.func86, Tryd.ntmps86
  by_cases hz : st.fault = 0
  · have hz' : (st.fault == 0) = true := by simpa using hz
    go_wp2_with fail
    go_ret
    exact ⟨rfl, H.out.set 8 e _ rfl (by simp) (by simp [Chk.bad]) (by simp [Chk.bad]) (by simp [Chk.bad, hz]), Since.setCell w ⟨bc, 8, none⟩ _⟩
  · have hz' : (st.fault == 0) = false := by simpa using hz
    go_wp2_with fail
    go_ret
    refine ⟨rfl, ?_, Since.refl _ _⟩
    have := H.out
    rw [show st.bad e = st by unfold Chk.bad; rw [if_neg hz]]
    exact this
theorem typedWant_any (w : World) (base bc : Nat) (vf : Value) (cf : List Value) (vS : Value) (bs : List Nat) (st : Chk) (h : ChkAt w base bc vf cf vS bs st) (a b : Int) :
    Calls Tryd.prog 165 #[.pointer (some ⟨bc, 0, none⟩), .int .i64 a, .int .i64 b] w fun en w' => en = .returned (.tuple #[]) ∧ ChkAt w' base bc vf cf vS bs (if a = b then st else st.bad 9) ∧ Since (fun k => k = bc) w w' := by
  have H := Lib.hid h
  clear h
  go_enter Tryd.func165, Tryd.ntmps165
  by_cases hz : a = b
  · have hz' : (a != b) = false := by simpa using hz
    go_wp2_with fail
    go_end0
    exact ⟨rfl, H.out, Since.refl _ _⟩
  · have hz' : (a != b) = true := by simpa using hz
    go_wp2_with fail
    refine (typedWrong_any w base bc vf cf vS bs st H.out 9).mono ?_
    rintro en w1 ⟨rfl, h1, h2⟩
    have H1 := Lib.hid (And.intro h1 h2)
    clear h1 h2
    go_wp2_with fail
    go_end0
    exact ⟨rfl, H1.out.1, H1.out.2⟩
theorem typedValue_any (t : Int) (w : World) : Calls Tryd.prog 139 #[.int .i64 t] w fun en w' => en = .returned (.bool (decide (1 ≤ t ∧ t ≤ 5))) ∧ w = w' := by
  go_enter Tryd.func139, Tryd.ntmps139
  go_wp2_with fail
  all_goals go_ret
  all_goals refine ⟨?_, rfl⟩
  all_goals congr 2
  all_goals simp only [Bool.decide_and, decide_eq_decide] at *
  all_goals simp [*]
  all_goals omega

theorem info_map : (Tryd.prog.info? 186).map (fun i => (i.zero, i.size, i.bytes)) = some (some (.map none), 1, 8) := by kernel_rfl
theorem typedOpen_any (w : World) (base bc : Nat) (vf : Value) (cf : List Value) (vS : Value) (bs : List Nat) (st : Chk) (h : ChkAt w base bc vf cf vS bs st) (hl : st.G.length ≤ 100000) :
    Calls Tryd.prog 85 #[.pointer (some ⟨bc, 0, none⟩)] w fun en w' => en = .returned (.tuple #[]) ∧ ∃ vS' bs', ChkAt w' base bc vf cf vS' bs' { st with G := [] :: st.G } ∧ Since (ChkM bc vS bs) w w' ∧ ChkAt.NewM w bc vS vS' bs bs' := by
  obtain ⟨aS, cS, rfl, hcS1, hcS2⟩ := row_slice h.row
  have c5 := h.c5
  have z5 := h.z 5
  have hlt := h.lb.2
  have hbig := h.big
  have hne := h.ne
  have hrow := h.row
  obtain ⟨i0, hi, hz0, hz1, hz2⟩ := info_parts info_map
  have hmk := @run_makeMap Tryd.prog
  have H := Lib.hid h
  have Hne := Lib.hid hne
  have hcell := cell_one_new (w.alloc (.map #[] 0)) (Value.map (some w.heap.size)) 186
  rw [World.size_alloc] at hcell
  clear h hne
  go_enter Tryd.func85, Tryd.ntmps85
  go_wp2_with (at_builtin; refine wpList_append_own_at _ rfl _ _ 80 rfl base 186 i0 (.map none) 1 8 Tryd.underlying80 hi hz0 hz1 hz2 rfl (by decide) _ _ _ rfl ((hrow.alloc _).alloc _) ⟨w.heap.size + 1, 0, none⟩ 1 1 [.map (some w.heap.size)] rfl rfl hcell (by intro u hu; simp at hu; subst hu; rfl) (by unfold maxLen; omega) (by omega) (by simp; omega) ?_)
  intro v' w2 hown hgrow _ hloc
  obtain ⟨gg, cg, rfl⟩ : ∃ gg cg, v' = .slice (some ⟨gg, 0, none⟩) (st.G.length + 1) cg := by
    rcases hown.2 with ⟨_, h⟩ | ⟨gg, cap', _, h, _⟩
    · omega
    · exact ⟨gg, cap', h⟩
  have hloc' : (Value.slice (some ⟨gg, 0, none⟩) (st.G.length + 1) cg).ownBlock = (Value.slice aS st.G.length cS).ownBlock ∨ (Value.slice (some ⟨gg, 0, none⟩) (st.G.length + 1) cg).ownBlock = some (w.heap.size + 1 + 1) := by
    rcases hloc with e | e
    · exact Or.inl e
    · exact Or.inr (by simpa using e)
  have hp := H.out.push hgrow hown hloc'
  have c52 : w2.cell? ⟨bc, 5, none⟩ = some (.slice aS st.G.length cS) := by
    have s1 : Since (fun k => (Value.slice aS st.G.length cS).ownBlock = some k) w w2 := ((Since.alloc _ _ _).trans (Since.alloc _ _ _)).trans (Since.grown hgrow)
    exact (s1.cell (o := 5) hlt Hne.out).trans c5
  have z52 : w2.frozen? ⟨bc, 5, none⟩ = false := by
    have s1 : Since (fun k => (Value.slice aS st.G.length cS).ownBlock = some k) w w2 := ((Since.alloc _ _ _).trans (Since.alloc _ _ _)).trans (Since.grown hgrow)
    exact (s1.frozen (o := 5) hlt Hne.out).trans z5
  have HP := Lib.hid hp
  clear hp hown hgrow hloc hloc' hrow
  go_wp2_with fail
  go_end0
  exact ⟨rfl, _, _, HP.out.1, HP.out.2.1, HP.out.2.2⟩
theorem typedClose_any (w : World) (base bc : Nat) (vf : Value) (cf : List Value) (vS : Value) (bs : List Nat) (st : Chk) (h : ChkAt w base bc vf cf vS bs st) (g : Scope) (r : List Scope) (hG : st.G = g :: r) (hl : r.length ≤ 100000) :
    Calls Tryd.prog 141 #[.pointer (some ⟨bc, 0, none⟩)] w fun en w' => en = .returned (.tuple #[]) ∧ ∃ vS' bs', ChkAt w' base bc vf cf vS' bs' { st with G := r } ∧ Since (ChkM bc vS bs) w w' ∧ ChkAt.NewM w bc vS vS' bs bs' := by
  have hrow := h.row
  rw [hG] at hrow
  obtain ⟨gS, cap, rfl, -, -, -, -, -⟩ := rowGet hrow (i := 0) (u := (mapRow bs)[0]'(by have h1 := hrow.1; simp at h1; omega)) (by simp)
  have hcap := (row_slice hrow)
  obtain ⟨_, _, hv, hc1, hc2⟩ := hcap
  obtain ⟨-, -, rfl⟩ := Value.slice.inj hv
  obtain ⟨b, bs', rfl, hp, hM⟩ := h.pop hG rfl
  have c5 := h.c5
  have z5 := h.z 5
  have hlt := h.lb.2
  have HP := Lib.hid hp
  have HM := Lib.hid hM
  obtain ⟨m1, hm1⟩ : ∃ m1, m1 = r.length + 1 := ⟨_, rfl⟩
  have hw0 : IntKind.i64.wrap ((m1 : Int) - 1) = (r.length : Int) := by rw [show ((m1 : Nat) : Int) - 1 = r.length by omega]; exact IntWalk.i64_in _ (by omega)
  have hj0 : (0 : Int) ≤ (r.length : Int) := by omega
  have hj1 : (r.length : Int) ≤ (m1 : Int) := by omega
  have hj2 : r.length ≤ cap := by simp at hc1; omega
  simp only [List.length_cons] at c5
  rw [← hm1] at c5
  clear h hp hM hrow hv hG hm1
  go_enter Tryd.func141, Tryd.ntmps141
  go_region
  all_goals go_wp2_with fail
  go_end0
  have hs : Since (ChkM bc (Value.slice (some ⟨gS, 0, none⟩) (r.length + 1) cap) (b :: bs')) w (w.setCell ⟨bc, 5, none⟩ (.slice (some ⟨gS, 0, none⟩) r.length cap)).drew := ((Since.setCell w ⟨bc, 5, none⟩ _).mono (fun k e => Or.inl e)).trans (Since.drew _ _)
  exact ⟨rfl, _, _, HP.out.since (Since.drew (fun _ => False) _) (fun _ e => e.elim), hs, fun k hk => Or.inl (HM.out k hk)⟩
end Go.Proofs.YtaomlfbcfmmhlaaDoor
