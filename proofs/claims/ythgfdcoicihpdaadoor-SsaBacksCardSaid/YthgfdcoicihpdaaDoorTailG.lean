/-
  Plain law on regions that draw their order: several conditions on worlds, each until an operation of its own comes up; a read whose condition stands until an operation that waits for it (by a chain) may be taken first.
-/
import Derived.WalkKit
import Derived.Deep.RegionHeld3
import Derived.Deep.RegionLaw
import Derived.Deep.AppendLies
namespace Go.Pst
open Go
set_option linter.unusedVariables false
section
variable {P : Program} {ops : Array Oper} {Q : Exit → Act → World → Prop} {md : Region.Mode} {G : List (Nat × (World → Prop))}

/-- What holds of the world as long as its operation has not come up. -/
def Held (G : List (Nat × (World → Prop))) (l : Array Bool) (w : World) : Prop := ∀ p ∈ G, l.getD p.1 true = false → p.2 w
def WpG (P : Program) (md : Region.Mode) (ops : Array Oper) (Q : Exit → Act → World → Prop) (G : List (Nat × (World → Prop))) : Nat → Array Bool → Act → World → Prop
  | 0, l, a, w => Region.ready md ops l = [] ∧ Q .normal a w
  | n + 1, l, a, w => (Region.ready md ops l = [] → Q .normal a w) ∧ ∀ i ∈ Region.ready md ops l, wpOp P ops Q i (fun a' w' => Held G (l.setIfInBounds i true) w' ∧ WpG P md ops Q G n (l.setIfInBounds i true) a' w') a w
theorem WpG.any : ∀ (n : Nat) (l : Array Bool) (a : Act) (w : World), WpG P md ops Q G n l a w → wpAny P md ops Q n l a w
  | 0, _, _, _, h => h
  | n + 1, _, _, _, h => ⟨h.1, fun i hi => wpOp_mono (fun a' w' h' => WpG.any n _ a' w' h'.2) (h.2 i hi)⟩
/-- Does operation j wait for operation i? -/
def waitsG (md : Region.Mode) (ops : Array Oper) (j i : Nat) : Bool := match ops[j]? with | some o => o.after.any fun e => Region.binds md e && e.on == i | none => false
/-- Each of the chain waits for the one ahead of it; none has come up. -/
def chainG (md : Region.Mode) (ops : Array Oper) (l : Array Bool) : Nat → List Nat → Bool
  | _, [] => true
  | i, c :: r => waitsG md ops c i && !(c == i) && !(l.getD c true) && chainG md ops l c r
theorem waitsG_not {i j : Nat} {l : Array Bool} (hw : waitsG md ops j i = true) (hi : l.getD i true = false) : j ∉ Region.ready md ops l := by
  intro hj
  unfold waitsG at hw
  obtain ⟨_, oj, hoj, hall⟩ := mem_ready.1 hj
  rw [hoj] at hw
  simp only [Array.any_eq_true', Bool.and_eq_true, beq_iff_eq] at hw
  obtain ⟨e, he, hb, heq⟩ := hw
  have h1 := hall e he hb
  rw [heq] at h1
  rcases Nat.lt_or_ge i l.size with h' | h'
  · simp [h'] at hi h1; rw [hi] at h1; cases h1
  · simp [Array.getElem?_eq_none h'] at h1
theorem chainG_mem {l : Array Bool} : ∀ {c : List Nat} {i : Nat}, chainG md ops l i c = true → ∀ x ∈ c, l.getD x true = false
  | [], _, _, x, hx => by cases hx
  | y :: r, i, h, x, hx => by
    simp only [chainG, Bool.and_eq_true, Bool.not_eq_true'] at h
    rcases List.mem_cons.1 hx with rfl | hx
    · exact h.1.2
    · exact chainG_mem h.2 x hx
/-- What comes up ahead of i is none of the chain; the chain stays. -/
theorem chainG_step {l : Array Bool} {j : Nat} (hj : j ∈ Region.ready md ops l) : ∀ {c : List Nat} {i : Nat}, l.getD i true = false → chainG md ops l i c = true → j ∉ c ∧ chainG md ops (l.setIfInBounds j true) i c = true
  | [], _, _, _ => ⟨by simp, rfl⟩
  | y :: r, i, hi, h => by
    simp only [chainG, Bool.and_eq_true, Bool.not_eq_true'] at h
    obtain ⟨⟨⟨h1, h2⟩, h3⟩, h4⟩ := h
    have hjy : j ≠ y := fun e => waitsG_not h1 hi (e ▸ hj)
    obtain ⟨g1, g2⟩ := chainG_step hj h3 h4
    refine ⟨by simp [hjy, g1], ?_⟩
    simp only [chainG, Bool.and_eq_true, Bool.not_eq_true']
    exact ⟨⟨⟨h1, h2⟩, by rw [getD_set_ne true hjy]; exact h3⟩, g2⟩
theorem WpG.first {i t : Nat} {oi : Oper} {v : Value} {S : World → Prop} {c : List Nat} (hi : ops[i]? = some oi) (htc : t ∈ c) (hG : (t, S) ∈ G)
    (hsel : ∀ (j : Nat) (o : Oper) cs b, ops[j]? = some o → o.op ≠ .select cs b) (hQ : ∀ c a w, Q (.panic c) (a.put oi.dst v) w → Q (.panic c) a w) (hGi : ∀ p ∈ G, p.1 ≠ i) :
    ∀ (n : Nat) (l : Array Bool) (a : Act) (w : World),
      (∀ j oj, ops[j]? = some oj → j ≠ i → l.getD j true = false → (∀ e ∈ oj.after, Region.binds md e = true → e.on ≠ i) → oi.apart ops oj = true) →
      i ∈ Region.ready md ops l → chainG md ops l i c = true → YieldsIf P ops S oi v a → Held G l w →
      WpG P md ops Q G n (l.setIfInBounds i true) (a.put oi.dst v) w → WpG P md ops Q G (n + 1) l a w := by
  have wait : ∀ {l : Array Bool} {j : Nat} {oj : Oper}, i ∈ Region.ready md ops l → j ∈ Region.ready md ops l → ops[j]? = some oj → ∀ e ∈ oj.after, Region.binds md e = true → e.on ≠ i := by
    intro l j oj hr hj hoj e he hb heq
    obtain ⟨_, oj', hoj', hall⟩ := mem_ready.1 hj
    obtain rfl : oj = oj' := by rw [hoj] at hoj'; exact Option.some.inj hoj'
    have h1 := hall e he hb
    have h0 := (mem_ready.1 hr).1
    rw [heq] at h1
    rcases Nat.lt_or_ge i l.size with h' | h'
    · simp [h'] at h0 h1; rw [h0] at h1; cases h1
    · simp [Array.getElem?_eq_none h'] at h1
  have setHeld : ∀ {l : Array Bool} {w : World}, Held G l w → Held G (l.setIfInBounds i true) w := by
    intro l w h p hp hl
    rw [getD_set_ne true (fun e => hGi p hp e.symm)] at hl
    exact h p hp hl
  intro n
  induction n with
  | zero =>
    intro l a w _ hr hch hy hS H
    refine ⟨fun h => (by rw [h] at hr; cases hr), fun j hj => ?_⟩
    by_cases hji : j = i
    · subst hji
      exact hy.wpOp hi (hS _ hG (chainG_mem hch t htc)) ⟨setHeld hS, H⟩
    · have := ready_mono hj hji
      rw [H.1] at this
      cases this
  | succ n ih =>
    intro l a w hfree hr hch hy hS H
    refine ⟨fun h => (by rw [h] at hr; cases hr), fun j hj => ?_⟩
    by_cases hji : j = i
    · subst hji
      exact hy.wpOp hi (hS _ hG (chainG_mem hch t htc)) ⟨setHeld hS, H⟩
    · obtain ⟨hjun, oj, hoj, _⟩ := mem_ready.1 hj
      have hno := wait hr hj hoj
      have hiun := (mem_ready.1 hr).1
      obtain ⟨hjc, hch2⟩ := chainG_step hj hiun hch
      have h2 := wpOp_putIf hoj (hfree j oj hoj hji hjun hno) (fun cs b => hsel i oi cs b hi) (fun cs b => hsel j oj cs b hoj) hQ hy (H.2 j (ready_mono hj hji))
      refine wpOp_mono (fun a' w' h3 => ?_) h2
      obtain ⟨hH, hW⟩ := h3.2
      rw [Array.setIfInBounds_comm _ _ (Ne.symm hji)] at hH hW
      -- the conditions behind j, i not listed yet
      have hH2 : Held G (l.setIfInBounds j true) w' := by
        intro p hp hl
        have e : i ≠ p.1 := fun e => hGi p hp e.symm
        exact hH p hp (by rw [getD_set_ne true e]; exact hl)
      refine ⟨hH2, ih (l.setIfInBounds j true) a' w' (fun k ok hk hki hun hn => hfree k ok hk hki ?_ hn) (ready_mono hr (Ne.symm hji)) hch2 h3.1 hH2 hW⟩
      by_cases hjk : j = k
      · subst hjk; exact hjun
      · rw [getD_set_ne true hjk] at hun; exact hun
/-- What holds in every world may be taken first as well. -/
theorem WpG.firstP {i : Nat} {oi : Oper} {v : Value} (hi : ops[i]? = some oi)
    (hsel : ∀ (j : Nat) (o : Oper) cs b, ops[j]? = some o → o.op ≠ .select cs b) (hQ : ∀ c a w, Q (.panic c) (a.put oi.dst v) w → Q (.panic c) a w) (hGi : ∀ p ∈ G, p.1 ≠ i) :
    ∀ (n : Nat) (l : Array Bool) (a : Act) (w : World),
      (∀ j oj, ops[j]? = some oj → j ≠ i → l.getD j true = false → (∀ e ∈ oj.after, Region.binds md e = true → e.on ≠ i) → oi.apart ops oj = true) →
      i ∈ Region.ready md ops l → YieldsIf P ops (fun _ => True) oi v a → Held G l w →
      WpG P md ops Q G n (l.setIfInBounds i true) (a.put oi.dst v) w → WpG P md ops Q G (n + 1) l a w := by
  have wait : ∀ {l : Array Bool} {j : Nat} {oj : Oper}, i ∈ Region.ready md ops l → j ∈ Region.ready md ops l → ops[j]? = some oj → ∀ e ∈ oj.after, Region.binds md e = true → e.on ≠ i := by
    intro l j oj hr hj hoj e he hb heq
    obtain ⟨_, oj', hoj', hall⟩ := mem_ready.1 hj
    obtain rfl : oj = oj' := by rw [hoj] at hoj'; exact Option.some.inj hoj'
    have h1 := hall e he hb
    have h0 := (mem_ready.1 hr).1
    rw [heq] at h1
    rcases Nat.lt_or_ge i l.size with h' | h'
    · simp [h'] at h0 h1; rw [h0] at h1; cases h1
    · simp [Array.getElem?_eq_none h'] at h1
  have setHeld : ∀ {l : Array Bool} {w : World}, Held G l w → Held G (l.setIfInBounds i true) w := by
    intro l w h p hp hl
    rw [getD_set_ne true (fun e => hGi p hp e.symm)] at hl
    exact h p hp hl
  intro n
  induction n with
  | zero =>
    intro l a w _ hr hy hS H
    refine ⟨fun h => (by rw [h] at hr; cases hr), fun j hj => ?_⟩
    by_cases hji : j = i
    · subst hji
      exact hy.wpOp hi trivial ⟨setHeld hS, H⟩
    · have := ready_mono hj hji
      rw [H.1] at this
      cases this
  | succ n ih =>
    intro l a w hfree hr hy hS H
    refine ⟨fun h => (by rw [h] at hr; cases hr), fun j hj => ?_⟩
    by_cases hji : j = i
    · subst hji
      exact hy.wpOp hi trivial ⟨setHeld hS, H⟩
    · obtain ⟨hjun, oj, hoj, _⟩ := mem_ready.1 hj
      have hno := wait hr hj hoj
      have h2 := wpOp_putIf hoj (hfree j oj hoj hji hjun hno) (fun cs b => hsel i oi cs b hi) (fun cs b => hsel j oj cs b hoj) hQ hy (H.2 j (ready_mono hj hji))
      refine wpOp_mono (fun a' w' h3 => ?_) h2
      obtain ⟨hH, hW⟩ := h3.2
      rw [Array.setIfInBounds_comm _ _ (Ne.symm hji)] at hH hW
      have hH2 : Held G (l.setIfInBounds j true) w' := fun p hp hl => hH p hp (by rw [getD_set_ne true (fun e => hGi p hp e.symm)]; exact hl)
      refine ⟨hH2, ih (l.setIfInBounds j true) a' w' (fun k ok hk hki hun hn => hfree k ok hk hki ?_ hn) (ready_mono hr (Ne.symm hji)) h3.1 hH2 hW⟩
      by_cases hjk : j = k
      · subst hjk; exact hjun
      · rw [getD_set_ne true hjk] at hun; exact hun

/-! ### As a printed walk uses them -/
def guardsG (G : List Nat) (i : Nat) : Bool := G.all fun t => !(t == i)
/-- A read, first; its condition is number g of G; the chain from it to that condition's operation. -/
theorem gRd {oi : Oper} {v : Value} {n : Nat} {l l' : Array Bool} {a a' : Act} {w : World} (i g : Nat) (c : List Nat) {p : Nat × (World → Prop)} (hH : Held G l w) (h : WpG P md ops Q G n l' a' w)
    (hg : G[g]? = some p := by rfl) (hi : ops[i]? = some oi := by first | (simp only [List.getElem?_toArray, List.getElem?_cons_zero, List.getElem?_cons_succ]; rfl) | rfl)
    (hc : (Region.noSelect ops && (Region.free md ops l i && ((Region.ready md ops l).contains i && (chainG md ops l i c && (c.contains p.1 && guardsG (G.map Prod.fst) i))))) = true := by as_aux_lemma => kernel_rfl)
    (hQ : ∀ c a w, Q (.panic c) (a.put oi.dst v) w → Q (.panic c) a w := by exact fun _ _ _ h => h)
    (hw : Region.wanted oi (yielded ops a.tmps) = true := by rfl)
    (hy : ∀ w, p.2 w → (execOp a.eval oi).run P w = .ok (.value v) w := by
      intro wS hSw; (try dsimp only at hSw); go_simp; first | done | with_reducible rfl | (refine if_neg ?_; omega))
    (hl : l.setIfInBounds i true = l' := by (try simp only [List.setIfInBounds_toArray, List.set_cons_zero, List.set_cons_succ]); first | done | rfl)
    (ha : a.put oi.dst v = a' := by (try simp only [Act.put, List.setIfInBounds_toArray, List.set_cons_zero, List.set_cons_succ]); first | done | rfl) :
    WpG P md ops Q G (n + 1) l a w := by
  simp only [Bool.and_eq_true] at hc
  obtain ⟨h1, h2, h3, h4, h5, h6⟩ := hc
  subst hl ha
  have hGi : ∀ p ∈ G, p.1 ≠ i := fun q hq e => by
    unfold guardsG at h6
    have := List.all_eq_true.1 h6 q.1 (List.mem_map.2 ⟨q, hq, rfl⟩)
    simp [e] at this
  exact WpG.first hi (by simpa using h5) (List.mem_of_getElem? hg) (Region.noSelect_spec h1) hQ hGi n l a w (Region.free_spec hi h2) (by simpa using h3) h4 (Or.inl ⟨hw, hy⟩) hH h
/-- A reckoning, first. -/
theorem gPu {oi : Oper} {v : Value} {n : Nat} {l l' : Array Bool} {a a' : Act} {w : World} (i : Nat) (hH : Held G l w) (h : WpG P md ops Q G n l' a' w)
    (hi : ops[i]? = some oi := by first | (simp only [List.getElem?_toArray, List.getElem?_cons_zero, List.getElem?_cons_succ]; rfl) | rfl)
    (hc : (Region.noSelect ops && (Region.free md ops l i && ((Region.ready md ops l).contains i && guardsG (G.map Prod.fst) i))) = true := by as_aux_lemma => kernel_rfl)
    (hQ : ∀ c a w, Q (.panic c) (a.put oi.dst v) w → Q (.panic c) a w := by exact fun _ _ _ h => h)
    (hw : Region.wanted oi (yielded ops a.tmps) = true := by rfl)
    (hy : ∀ w, (execOp a.eval oi).run P w = .ok (.value v) w := by
      intro wS; go_simp; first | done | with_reducible rfl | (refine if_neg ?_; omega))
    (hl : l.setIfInBounds i true = l' := by (try simp only [List.setIfInBounds_toArray, List.set_cons_zero, List.set_cons_succ]); first | done | rfl)
    (ha : a.put oi.dst v = a' := by (try simp only [Act.put, List.setIfInBounds_toArray, List.set_cons_zero, List.set_cons_succ]); first | done | rfl) :
    WpG P md ops Q G (n + 1) l a w := by
  simp only [Bool.and_eq_true] at hc
  obtain ⟨h1, h2, h3, h6⟩ := hc
  subst hl ha
  have hGi : ∀ p ∈ G, p.1 ≠ i := fun q hq e => by
    unfold guardsG at h6
    have := List.all_eq_true.1 h6 q.1 (List.mem_map.2 ⟨q, hq, rfl⟩)
    simp [e] at this
  exact WpG.firstP hi (Region.noSelect_spec h1) hQ hGi n l a w (Region.free_spec hi h2) (by simpa using h3) (Or.inl ⟨hw, fun w _ => hy w⟩) hH h
theorem gGo {id : Nat} {a : Act} {w : World} (G : List (Nat × (World → Prop))) (h : WpG P .any ops Q G ops.size (Array.replicate ops.size false) a w.drew) (hm : P.follows .mixedOrders = true := by kernel_rfl) : (Code.region id ops true).wp P Q a w :=
  wp_region_any hm (WpG.any _ _ _ _ h)
theorem gFin {n : Nat} {l : Array Bool} {a : Act} {w : World} (h : Q .normal a w) (hr : Region.ready md ops l = [] := by as_aux_lemma => kernel_rfl) : WpG P md ops Q G n l a w := by
  cases n with
  | zero => exact ⟨hr, h⟩
  | succ n => exact ⟨fun _ => h, by rw [hr]; simp⟩
def ThenG (P : Program) (md : Region.Mode) (ops : Array Oper) (Q : Exit → Act → World → Prop) (G : List (Nat × (World → Prop))) (n i : Nat) (l : Array Bool) (K : Act → World → Prop) : Prop :=
  ∀ a' w', Held G (l.setIfInBounds i true) w' → WpG P md ops Q G n (l.setIfInBounds i true) a' w' → K a' w'
theorem wpG_key {n : Nat} {l : Array Bool} {a : Act} {w : World} (i : Nat) (o : Oper) (ho : ops[i]? = some o) (h : ∀ K, ThenG P md ops Q G n i l K → if Region.wanted o (yielded ops a.tmps) = true then Oper.wp P o a w K Q else K (a.put o.dst undef) w) :
    wpOp P ops Q i (fun a' w' => Held G (l.setIfInBounds i true) w' ∧ WpG P md ops Q G n (l.setIfInBounds i true) a' w') a w := by
  unfold wpOp
  simp only [ho]
  have hk := h (fun a' w' => Held G (l.setIfInBounds i true) w' ∧ WpG P md ops Q G n (l.setIfInBounds i true) a' w') (fun a' w' hS hW => ⟨hS, hW⟩)
  by_cases hw : Region.wanted o (yielded ops a.tmps) = true
  · rw [if_pos hw] at hk ⊢
    exact Or.inl hk
  · rw [if_neg hw] at hk ⊢
    exact hk
theorem gP1 {o : Oper} {n : Nat} {l : Array Bool} {a : Act} {w : World} (i : Nat)
    (h : ∀ K, ThenG P md ops Q G n i l K → if Region.wanted o (yielded ops a.tmps) = true then Oper.wp P o a w K Q else K (a.put o.dst undef) w)
    (hr : Region.ready md ops l = [i] := by as_aux_lemma => kernel_rfl) (ho : ops[i]? = some o := by rfl) : WpG P md ops Q G (n + 1) l a w :=
  ⟨fun h0 => (by rw [hr] at h0; cases h0), fun q hq => by rw [hr, List.mem_singleton] at hq; subst hq; exact wpG_key _ _ ho h⟩
theorem gP2 {o o' : Oper} {n : Nat} {l : Array Bool} {a : Act} {w : World} (i j : Nat)
    (h : ∀ K, ThenG P md ops Q G n i l K → if Region.wanted o (yielded ops a.tmps) = true then Oper.wp P o a w K Q else K (a.put o.dst undef) w)
    (h' : ∀ K, ThenG P md ops Q G n j l K → if Region.wanted o' (yielded ops a.tmps) = true then Oper.wp P o' a w K Q else K (a.put o'.dst undef) w)
    (hr : Region.ready md ops l = [i, j] := by as_aux_lemma => kernel_rfl) (ho : ops[i]? = some o := by rfl) (ho' : ops[j]? = some o' := by rfl) : WpG P md ops Q G (n + 1) l a w :=
  ⟨fun h0 => (by rw [hr] at h0; cases h0), fun q hq => by
    rw [hr] at hq
    rcases List.mem_cons.1 hq with e | e
    · subst e; exact wpG_key _ _ ho h
    · rw [List.mem_singleton] at e; subst e; exact wpG_key _ _ ho' h'⟩
theorem gP3 {o o' o'' : Oper} {n : Nat} {l : Array Bool} {a : Act} {w : World} (i j k : Nat)
    (h : ∀ K, ThenG P md ops Q G n i l K → if Region.wanted o (yielded ops a.tmps) = true then Oper.wp P o a w K Q else K (a.put o.dst undef) w)
    (h' : ∀ K, ThenG P md ops Q G n j l K → if Region.wanted o' (yielded ops a.tmps) = true then Oper.wp P o' a w K Q else K (a.put o'.dst undef) w)
    (h'' : ∀ K, ThenG P md ops Q G n k l K → if Region.wanted o'' (yielded ops a.tmps) = true then Oper.wp P o'' a w K Q else K (a.put o''.dst undef) w)
    (hr : Region.ready md ops l = [i, j, k] := by as_aux_lemma => kernel_rfl) (ho : ops[i]? = some o := by rfl) (ho' : ops[j]? = some o' := by rfl) (ho'' : ops[k]? = some o'' := by rfl) : WpG P md ops Q G (n + 1) l a w :=
  ⟨fun h0 => (by rw [hr] at h0; cases h0), fun q hq => by
    rw [hr] at hq
    rcases List.mem_cons.1 hq with e | e
    · subst e; exact wpG_key _ _ ho h
    rcases List.mem_cons.1 e with e | e
    · subst e; exact wpG_key _ _ ho' h'
    · rw [List.mem_singleton] at e; subst e; exact wpG_key _ _ ho'' h''⟩
theorem gNx {i n : Nat} {l l' : Array Bool} {K : Act → World → Prop} {a a' : Act} {w : World} (hK : ThenG P md ops Q G n i l K) (hH : Held G (l.setIfInBounds i true) w) (h : WpG P md ops Q G n l' a' w)
    (hl : l.setIfInBounds i true = l' := by (try simp only [List.setIfInBounds_toArray, List.set_cons_zero, List.set_cons_succ]); first | done | rfl)
    (ha : a = a' := by (try simp only [Act.put, List.setIfInBounds_toArray, List.set_cons_zero, List.set_cons_succ]); first | done | rfl) : K a w := by
  subst hl ha
  exact hK _ _ hH h
/-- Nothing is asked of the world. -/
theorem Held.nil {l : Array Bool} {w : World} : Held [] l w := fun p hp => by cases hp
end
end Go.Pst
