/-
  Texts joined: RtLess.
-/
import Derived.Test.YtaomlfbcfmmhlaaJH

/-
  rt's less, its last closure, walked (printed by wip/gen_rtfn.py).
-/
namespace Go.Proofs.Ytaomlfbcfmmhlaa
open Go.RowKit Go.Pst
set_option linter.unusedVariables false
set_option linter.unusedSimpArgs false

variable {B bm n k : Nat} {w0 w : World} {l : List (Nat × Nat × Value)} {c : PCode}
def less2_1 (c : PCode) (k : Nat) (i : Int) : PCode := mathF c k ⟨#[43]⟩ 0 i
theorem less2_1_len (c : PCode) (k : Nat) (i : Int) : (less2_1 c k i).blocks.length = c.blocks.length + 0 := by
  simp only [less2_1, mathF_len, konstF_len, loadF_len, allocF_len, setF_len, storeF_len, backF_len, freshF_len, copyF_len, whenOut_len, whenIn_len, countOut_len, countIn_len] <;> try omega
def less2_2 (c : PCode) (k : Nat) (i : Int) : PCode := loadF (less2_1 c k i) k c.vars 0
theorem less2_2_len (c : PCode) (k : Nat) (i : Int) : (less2_2 c k i).blocks.length = c.blocks.length + 0 := by
  simp only [less2_2, mathF_len, konstF_len, loadF_len, allocF_len, setF_len, storeF_len, backF_len, freshF_len, copyF_len, whenOut_len, whenIn_len, countOut_len, countIn_len, less2_1_len] <;> try omega
def less2_3 (c : PCode) (k : Nat) (i : Int) : PCode := mathF (less2_2 c k i) k ⟨#[43]⟩ 2 i
theorem less2_3_len (c : PCode) (k : Nat) (i : Int) : (less2_3 c k i).blocks.length = c.blocks.length + 0 := by
  simp only [less2_3, mathF_len, konstF_len, loadF_len, allocF_len, setF_len, storeF_len, backF_len, freshF_len, copyF_len, whenOut_len, whenIn_len, countOut_len, countIn_len, less2_2_len] <;> try omega
def less2_4 (c : PCode) (k : Nat) (i : Int) : PCode := loadF (less2_3 c k i) k (less2_2 c k i).vars 0
theorem less2_4_len (c : PCode) (k : Nat) (i : Int) : (less2_4 c k i).blocks.length = c.blocks.length + 0 := by
  simp only [less2_4, mathF_len, konstF_len, loadF_len, allocF_len, setF_len, storeF_len, backF_len, freshF_len, copyF_len, whenOut_len, whenIn_len, countOut_len, countIn_len, less2_3_len] <;> try omega
def less2_5 (c : PCode) (k : Nat) (i : Int) : PCode := mathF (less2_4 c k i) k ⟨#[33, 61]⟩ (less2_1 c k i).vars (less2_3 c k i).vars
theorem less2_5_len (c : PCode) (k : Nat) (i : Int) : (less2_5 c k i).blocks.length = c.blocks.length + 0 := by
  simp only [less2_5, mathF_len, konstF_len, loadF_len, allocF_len, setF_len, storeF_len, backF_len, freshF_len, copyF_len, whenOut_len, whenIn_len, countOut_len, countIn_len, less2_4_len] <;> try omega
def less2_6 (c : PCode) (k : Nat) (i : Int) : PCode := whenOut (less21_F (whenIn (less2_5 c k i) k (less2_4 c k i).vars) (less2_5 c k i).blocks.length (less2_1 c k i).vars (less2_3 c k i).vars) (less21_K (whenIn (less2_5 c k i) k (less2_4 c k i).vars) (less2_5 c k i).blocks.length (less2_1 c k i).vars (less2_3 c k i).vars) (((less2_5 c k i).blocks.length : Int) + 1)
theorem less2_6_len (c : PCode) (k : Nat) (i : Int) : (less2_6 c k i).blocks.length = c.blocks.length + 2 := by
  simp only [less2_6, mathF_len, konstF_len, loadF_len, allocF_len, setF_len, storeF_len, backF_len, freshF_len, copyF_len, whenOut_len, whenIn_len, countOut_len, countIn_len, less21_len, less2_5_len] <;> try omega
def less2_F (c : PCode) (k : Nat) (i : Int) : PCode := (less2_6 c k i)
def less2_K (c : PCode) (k : Nat) (i : Int) : Nat := ((less2_5 c k i).blocks.length + 1)
theorem less2_len (c : PCode) (k : Nat) (i : Int) : (less2_F c k i).blocks.length = c.blocks.length + 2 := less2_6_len c k i
theorem enters_less2 : Enters Try.prog 45 := enters_of Try.func45 (by kernel_rfl) (by kernel_rfl)
set_option maxHeartbeats 16000000 in
theorem less2_any {b_m : Nat} {i : Int} (h_i : InI i) (m_m : (b_m, 0, Value.pointer (some ⟨bm, 0, none⟩)) ∈ l) (h : Env B w0 bm l (n + 17) c k w) :
    Calls Try.prog 45 #[.int .i64 i, .pointer (some ⟨b_m, 0, none⟩)] w fun e w' => e = .returned (.tuple #[]) ∧ Env B w0 bm l n (less2_F c k i) (less2_K c k i) w' := by
  have hz_0 : InI 0 := ini rfl
  have hz_2 : InI 2 := ini rfl
  have H0 := Lib.hid h
  clear h
  go_enter Try.func45, Try.ntmps45
  have q_m := H0.out.cell m_m
  go_wp2_with fail
  clear q_m
  have hd0 := Env.drew H0.out
  have hS0 := hd0.cell m_m
  refine cut2 _ (fun b1 b2 w' => InI c.vars ∧ InI (less2_1 c k i).vars ∧ InI (less2_2 c k i).vars ∧ InI (less2_3 c k i).vars ∧ Env B w0 bm ((b2, 0, Value.int .i64 (less2_3 c k i).vars) :: (b1, 0, Value.int .i64 (less2_1 c k i).vars) :: l) (n + 9) (less2_4 c k i) k w') (by
    refine wp_region_held_drew (S := fun w' => w'.cell? ⟨b_m, 0, none⟩ = some (.pointer (some ⟨bm, 0, none⟩))) (by kernel_rfl) hS0 (fun hHeld => ?_)
    refine wpAnyH_take (i := 0) (v := ?_) rfl (by kernel_rfl) (by kernel_rfl) (by kernel_rfl) (fun _ _ _ h => h) (Or.inl ⟨by rfl, ?_⟩) (by assumption) ?_
    rotate_left
    · intro w hSw; (try dsimp only at hSw); go_simp; (first | done | with_reducible rfl)
    try simp only [Act.put, List.setIfInBounds_toArray, List.set_cons_zero, List.set_cons_succ]
    refine wpAnyH_take (i := 1) (v := ?_) rfl (by kernel_rfl) (by kernel_rfl) (by kernel_rfl) (fun _ _ _ h => h) (Or.inl ⟨by rfl, ?_⟩) (by assumption) ?_
    rotate_left
    · intro w hSw; (try dsimp only at hSw); go_simp; (first | done | with_reducible rfl)
    try simp only [Act.put, List.setIfInBounds_toArray, List.set_cons_zero, List.set_cons_succ]
    refine wpAnyH_take (i := 2) (v := ?_) rfl (by kernel_rfl) (by kernel_rfl) (by kernel_rfl) (fun _ _ _ h => h) (Or.inl ⟨by rfl, ?_⟩) (by assumption) ?_
    rotate_left
    · intro w hSw; (try dsimp only at hSw); go_simp; (first | done | with_reducible rfl)
    try simp only [Act.put, List.setIfInBounds_toArray, List.set_cons_zero, List.set_cons_succ]
    refine wpAnyH_take (i := 5) (v := ?_) rfl (by kernel_rfl) (by kernel_rfl) (by kernel_rfl) (fun _ _ _ h => h) (Or.inl ⟨by rfl, ?_⟩) (by assumption) ?_
    rotate_left
    · intro w hSw; (try dsimp only at hSw); go_simp; (first | done | with_reducible rfl)
    try simp only [Act.put, List.setIfInBounds_toArray, List.set_cons_zero, List.set_cons_succ]
    refine wpAnyH_take (i := 6) (v := ?_) rfl (by kernel_rfl) (by kernel_rfl) (by kernel_rfl) (fun _ _ _ h => h) (Or.inl ⟨by rfl, ?_⟩) (by assumption) ?_
    rotate_left
    · intro w hSw; (try dsimp only at hSw); go_simp; (first | done | with_reducible rfl)
    try simp only [Act.put, List.setIfInBounds_toArray, List.set_cons_zero, List.set_cons_succ]
    refine wpAnyH_take (i := 7) (v := ?_) rfl (by kernel_rfl) (by kernel_rfl) (by kernel_rfl) (fun _ _ _ h => h) (Or.inl ⟨by rfl, ?_⟩) (by assumption) ?_
    rotate_left
    · intro w hSw; (try dsimp only at hSw); go_simp; (first | done | with_reducible rfl)
    try simp only [Act.put, List.setIfInBounds_toArray, List.set_cons_zero, List.set_cons_succ]
    refine wpAnyH_ready (rs := [3, 10, 11]) (by kernel_rfl) (by simp) ?_
    refine AllReadyH.cons rfl (fun K hK => ?_) (AllReadyH.cons rfl (fun K hK => ?_) (AllReadyH.cons rfl (fun K hK => ?_) AllReadyH.nil))
    · go_simp
      refine (math_any ⟨#[43]⟩ 0 i hz_0 h_i (by decide) hd0).mono ?_
      rintro e v0 ⟨rfl, E0_⟩
      have E0 : Env B w0 bm _ (n + 15) (less2_1 c k i) k v0 := E0_
      clear E0_
      try go_wp2_with fail
      refine hK.out _ _ (E0.cell m_m) (fun hHeld => ?_)
      clear hK K
      try simp only [Act.put, List.setIfInBounds_toArray, List.set_cons_zero, List.set_cons_succ]
      have hr1 := InI.vars hd0
      refine wpAnyH_ready (rs := [4, 10, 11]) (by kernel_rfl) (by simp) ?_
      refine AllReadyH.cons rfl (fun K hK => ?_) (AllReadyH.cons rfl (fun K hK => ?_) (AllReadyH.cons rfl (fun K hK => ?_) AllReadyH.nil))
      · go_simp
        refine (load_any c.vars 0 hr1 hz_0 E0).mono ?_
        rintro e v1 ⟨rfl, E1_⟩
        have E1 : Env B w0 bm _ (n + 13) (less2_2 c k i) k v1 := E1_
        clear E1_
        try go_wp2_with fail
        refine hK.out _ _ (E1.cell m_m) (fun hHeld => ?_)
        clear hK K
        try simp only [Act.put, List.setIfInBounds_toArray, List.set_cons_zero, List.set_cons_succ]
        have hr2 := InI.vars E0
        refine wpAnyH_ready (rs := [8, 10, 11]) (by kernel_rfl) (by simp) ?_
        refine AllReadyH.cons rfl (fun K hK => ?_) (AllReadyH.cons rfl (fun K hK => ?_) (AllReadyH.cons rfl (fun K hK => ?_) AllReadyH.nil))
        · go_simp
          refine (math_any ⟨#[43]⟩ 2 i hz_2 h_i (by decide) E1).mono ?_
          rintro e v2 ⟨rfl, E2_⟩
          have E2 : Env B w0 bm _ (n + 11) (less2_3 c k i) k v2 := E2_
          clear E2_
          try go_wp2_with fail
          refine hK.out _ _ (E2.cell m_m) (fun hHeld => ?_)
          clear hK K
          try simp only [Act.put, List.setIfInBounds_toArray, List.set_cons_zero, List.set_cons_succ]
          have hr3 := InI.vars E1
          refine wpAnyH_ready (rs := [9, 10, 11]) (by kernel_rfl) (by simp) ?_
          refine AllReadyH.cons rfl (fun K hK => ?_) (AllReadyH.cons rfl (fun K hK => ?_) (AllReadyH.cons rfl (fun K hK => ?_) AllReadyH.nil))
          · go_simp
            refine (load_any (less2_2 c k i).vars 0 hr3 hz_0 E2).mono ?_
            rintro e v3 ⟨rfl, E3_⟩
            have E3 : Env B w0 bm _ (n + 9) (less2_4 c k i) k v3 := E3_
            clear E3_
            try go_wp2_with fail
            refine hK.out _ _ (E3.cell m_m) (fun hHeld => ?_)
            clear hK K
            try simp only [Act.put, List.setIfInBounds_toArray, List.set_cons_zero, List.set_cons_succ]
            have hr4 := InI.vars E2
            refine wpAnyH_ready (rs := [10, 11]) (by kernel_rfl) (by simp) ?_
            refine AllReadyH.cons rfl (fun K hK => ?_) (AllReadyH.cons rfl (fun K hK => ?_) AllReadyH.nil)
            · have f1 := Env.base E3
              have g1 : ∀ p ∈ l, p.1 < _ := fun p hp => Env.lt E3 hp
              have E4 := Env.box E3 (.int .i64 0) 3
              go_simp
              try simp only [World.size_drew] at f1 g1 E4
              obtain ⟨v4, hv4⟩ : ∃ V, V = World.alloc v3 (.cells #[.int .i64 0] 3) := ⟨_, rfl⟩
              rw [← hv4] at E4 ⊢
              clear hv4
              generalize v3.heap.size = b1 at f1 g1 E4 ⊢
              refine hK.out _ _ (E4.cell (List.mem_cons_of_mem _ m_m)) (fun hHeld => ?_)
              clear hK K
              try simp only [Act.put, List.setIfInBounds_toArray, List.set_cons_zero, List.set_cons_succ]
              refine wpAnyH_ready (rs := [11]) (by kernel_rfl) (by simp) ?_
              refine AllReadyH.cons rfl (fun K hK => ?_) AllReadyH.nil
              have f2 := Env.base E4
              have g2 : ∀ p ∈ l, p.1 < _ := fun p hp => Env.lt E4 (List.mem_cons_of_mem _ hp)
              have gne := Env.lt E4 List.mem_cons_self
              have E5 := Env.box E4 (.int .i64 0) 3
              go_simp
              try simp only [World.size_drew] at f2 g2 E5 gne
              obtain ⟨v5, hv5⟩ : ∃ V, V = World.alloc v4 (.cells #[.int .i64 0] 3) := ⟨_, rfl⟩
              rw [← hv5] at E5 ⊢
              clear hv5
              generalize v4.heap.size = b2 at f2 g2 E5 gne ⊢
              refine hK.out _ _ (E5.cell (List.mem_cons_of_mem _ (List.mem_cons_of_mem _ m_m))) (fun hHeld => ?_)
              clear hK K
              try simp only [Act.put, List.setIfInBounds_toArray, List.set_cons_zero, List.set_cons_succ]
              refine wpAnyH_ready (rs := [12]) (by kernel_rfl) (by simp) ?_
              refine AllReadyH.cons rfl (fun K hK => ?_) AllReadyH.nil
              have qc := Env.cell E5 (List.mem_cons_of_mem _ List.mem_cons_self)
              have qz := Env.frozen E5 (List.mem_cons_of_mem _ List.mem_cons_self)
              go_simp
              clear qc qz
              have E6 := Env.poke (v' := .int .i64 (less2_1 c k i).vars) (l' := _ :: l) E5 (List.mem_cons_of_mem _ List.mem_cons_self) f1 (fun p hp => by rcases List.mem_cons.1 hp with rfl | hp; exact ⟨List.mem_cons_self, by show b2 ≠ b1; omega⟩; exact ⟨List.mem_cons_of_mem _ (List.mem_cons_of_mem _ hp), Nat.ne_of_lt (g1 p hp)⟩)
              obtain ⟨v6, hv6⟩ : ∃ V, V = World.setCell v5 ⟨b1, 0, none⟩ (.int .i64 (less2_1 c k i).vars) := ⟨_, rfl⟩
              rw [← hv6] at E6 ⊢
              clear hv6
              refine hK.out _ _ (E6.cell (List.mem_cons_of_mem _ (List.mem_cons_of_mem _ m_m))) (fun hHeld => ?_)
              clear hK K
              try simp only [Act.put, List.setIfInBounds_toArray, List.set_cons_zero, List.set_cons_succ]
              refine wpAnyH_ready (rs := [13]) (by kernel_rfl) (by simp) ?_
              refine AllReadyH.cons rfl (fun K hK => ?_) AllReadyH.nil
              have qc := Env.cell E6 (List.mem_cons_of_mem _ List.mem_cons_self)
              have qz := Env.frozen E6 (List.mem_cons_of_mem _ List.mem_cons_self)
              go_simp
              clear qc qz
              have E7 := Env.poke (v' := .int .i64 (less2_3 c k i).vars) (l' := _ :: l) E6 (List.mem_cons_of_mem _ List.mem_cons_self) f2 (fun p hp => by rcases List.mem_cons.1 hp with rfl | hp; exact ⟨List.mem_cons_self, by show b1 ≠ b2; omega⟩; exact ⟨List.mem_cons_of_mem _ (List.mem_cons_of_mem _ hp), Nat.ne_of_lt (g2 p hp)⟩)
              obtain ⟨v7, hv7⟩ : ∃ V, V = World.setCell v6 ⟨b2, 0, none⟩ (.int .i64 (less2_3 c k i).vars) := ⟨_, rfl⟩
              rw [← hv7] at E7 ⊢
              clear hv7
              refine hK.out _ _ (E7.cell (List.mem_cons_of_mem _ (List.mem_cons_of_mem _ m_m))) (fun hHeld => ?_)
              clear hK K
              try simp only [Act.put, List.setIfInBounds_toArray, List.set_cons_zero, List.set_cons_succ]
              refine wpAnyH_done (by kernel_rfl) ?_ _
              exact ⟨b1, b2, rfl, hr1, hr2, hr3, hr4, E7⟩
            · have f2 := Env.base E3
              have g2 : ∀ p ∈ l, p.1 < _ := fun p hp => Env.lt E3 hp
              have E4 := Env.box E3 (.int .i64 0) 3
              go_simp
              try simp only [World.size_drew] at f2 g2 E4
              obtain ⟨v4, hv4⟩ : ∃ V, V = World.alloc v3 (.cells #[.int .i64 0] 3) := ⟨_, rfl⟩
              rw [← hv4] at E4 ⊢
              clear hv4
              generalize v3.heap.size = b2 at f2 g2 E4 ⊢
              refine hK.out _ _ (E4.cell (List.mem_cons_of_mem _ m_m)) (fun hHeld => ?_)
              clear hK K
              try simp only [Act.put, List.setIfInBounds_toArray, List.set_cons_zero, List.set_cons_succ]
              refine wpAnyH_ready (rs := [10]) (by kernel_rfl) (by simp) ?_
              refine AllReadyH.cons rfl (fun K hK => ?_) AllReadyH.nil
              have f1 := Env.base E4
              have g1 : ∀ p ∈ l, p.1 < _ := fun p hp => Env.lt E4 (List.mem_cons_of_mem _ hp)
              have gne := Env.lt E4 List.mem_cons_self
              have E5 := Env.box E4 (.int .i64 0) 3
              go_simp
              try simp only [World.size_drew] at f1 g1 E5 gne
              obtain ⟨v5, hv5⟩ : ∃ V, V = World.alloc v4 (.cells #[.int .i64 0] 3) := ⟨_, rfl⟩
              rw [← hv5] at E5 ⊢
              clear hv5
              generalize v4.heap.size = b1 at f1 g1 E5 gne ⊢
              refine hK.out _ _ (E5.cell (List.mem_cons_of_mem _ (List.mem_cons_of_mem _ m_m))) (fun hHeld => ?_)
              clear hK K
              try simp only [Act.put, List.setIfInBounds_toArray, List.set_cons_zero, List.set_cons_succ]
              refine wpAnyH_ready (rs := [12]) (by kernel_rfl) (by simp) ?_
              refine AllReadyH.cons rfl (fun K hK => ?_) AllReadyH.nil
              have qc := Env.cell E5 List.mem_cons_self
              have qz := Env.frozen E5 List.mem_cons_self
              go_simp
              clear qc qz
              have E6 := Env.poke (v' := .int .i64 (less2_1 c k i).vars) (l' := _ :: l) E5 List.mem_cons_self f1 (fun p hp => by rcases List.mem_cons.1 hp with rfl | hp; exact ⟨(List.mem_cons_of_mem _ List.mem_cons_self), by show b2 ≠ b1; omega⟩; exact ⟨List.mem_cons_of_mem _ (List.mem_cons_of_mem _ hp), Nat.ne_of_lt (g1 p hp)⟩)
              obtain ⟨v6, hv6⟩ : ∃ V, V = World.setCell v5 ⟨b1, 0, none⟩ (.int .i64 (less2_1 c k i).vars) := ⟨_, rfl⟩
              rw [← hv6] at E6 ⊢
              clear hv6
              refine hK.out _ _ (E6.cell (List.mem_cons_of_mem _ (List.mem_cons_of_mem _ m_m))) (fun hHeld => ?_)
              clear hK K
              try simp only [Act.put, List.setIfInBounds_toArray, List.set_cons_zero, List.set_cons_succ]
              refine wpAnyH_ready (rs := [13]) (by kernel_rfl) (by simp) ?_
              refine AllReadyH.cons rfl (fun K hK => ?_) AllReadyH.nil
              have qc := Env.cell E6 (List.mem_cons_of_mem _ List.mem_cons_self)
              have qz := Env.frozen E6 (List.mem_cons_of_mem _ List.mem_cons_self)
              go_simp
              clear qc qz
              have E7 := Env.poke (v' := .int .i64 (less2_3 c k i).vars) (l' := _ :: l) E6 (List.mem_cons_of_mem _ List.mem_cons_self) f2 (fun p hp => by rcases List.mem_cons.1 hp with rfl | hp; exact ⟨List.mem_cons_self, by show b1 ≠ b2; omega⟩; exact ⟨List.mem_cons_of_mem _ (List.mem_cons_of_mem _ hp), Nat.ne_of_lt (g2 p hp)⟩)
              obtain ⟨v7, hv7⟩ : ∃ V, V = World.setCell v6 ⟨b2, 0, none⟩ (.int .i64 (less2_3 c k i).vars) := ⟨_, rfl⟩
              rw [← hv7] at E7 ⊢
              clear hv7
              refine hK.out _ _ (E7.cell (List.mem_cons_of_mem _ (List.mem_cons_of_mem _ m_m))) (fun hHeld => ?_)
              clear hK K
              try simp only [Act.put, List.setIfInBounds_toArray, List.set_cons_zero, List.set_cons_succ]
              refine wpAnyH_done (by kernel_rfl) ?_ _
              exact ⟨b1, b2, rfl, hr1, hr2, hr3, hr4, E7⟩
          · have f1 := Env.base E2
            have g1 : ∀ p ∈ l, p.1 < _ := fun p hp => Env.lt E2 hp
            have E3 := Env.box E2 (.int .i64 0) 3
            go_simp
            try simp only [World.size_drew] at f1 g1 E3
            obtain ⟨v3, hv3⟩ : ∃ V, V = World.alloc v2 (.cells #[.int .i64 0] 3) := ⟨_, rfl⟩
            rw [← hv3] at E3 ⊢
            clear hv3
            generalize v2.heap.size = b1 at f1 g1 E3 ⊢
            refine hK.out _ _ (E3.cell (List.mem_cons_of_mem _ m_m)) (fun hHeld => ?_)
            clear hK K
            try simp only [Act.put, List.setIfInBounds_toArray, List.set_cons_zero, List.set_cons_succ]
            refine wpAnyH_ready (rs := [9, 11]) (by kernel_rfl) (by simp) ?_
            refine AllReadyH.cons rfl (fun K hK => ?_) (AllReadyH.cons rfl (fun K hK => ?_) AllReadyH.nil)
            · go_simp
              refine (load_any (less2_2 c k i).vars 0 hr3 hz_0 E3).mono ?_
              rintro e v4 ⟨rfl, E4_⟩
              have E4 : Env B w0 bm _ (n + 9) (less2_4 c k i) k v4 := E4_
              clear E4_
              try go_wp2_with fail
              refine hK.out _ _ (E4.cell (List.mem_cons_of_mem _ m_m)) (fun hHeld => ?_)
              clear hK K
              try simp only [Act.put, List.setIfInBounds_toArray, List.set_cons_zero, List.set_cons_succ]
              have hr4 := InI.vars E3
              refine wpAnyH_ready (rs := [11]) (by kernel_rfl) (by simp) ?_
              refine AllReadyH.cons rfl (fun K hK => ?_) AllReadyH.nil
              have f2 := Env.base E4
              have g2 : ∀ p ∈ l, p.1 < _ := fun p hp => Env.lt E4 (List.mem_cons_of_mem _ hp)
              have gne := Env.lt E4 List.mem_cons_self
              have E5 := Env.box E4 (.int .i64 0) 3
              go_simp
              try simp only [World.size_drew] at f2 g2 E5 gne
              obtain ⟨v5, hv5⟩ : ∃ V, V = World.alloc v4 (.cells #[.int .i64 0] 3) := ⟨_, rfl⟩
              rw [← hv5] at E5 ⊢
              clear hv5
              generalize v4.heap.size = b2 at f2 g2 E5 gne ⊢
              refine hK.out _ _ (E5.cell (List.mem_cons_of_mem _ (List.mem_cons_of_mem _ m_m))) (fun hHeld => ?_)
              clear hK K
              try simp only [Act.put, List.setIfInBounds_toArray, List.set_cons_zero, List.set_cons_succ]
              refine wpAnyH_ready (rs := [12]) (by kernel_rfl) (by simp) ?_
              refine AllReadyH.cons rfl (fun K hK => ?_) AllReadyH.nil
              have qc := Env.cell E5 (List.mem_cons_of_mem _ List.mem_cons_self)
              have qz := Env.frozen E5 (List.mem_cons_of_mem _ List.mem_cons_self)
              go_simp
              clear qc qz
              have E6 := Env.poke (v' := .int .i64 (less2_1 c k i).vars) (l' := _ :: l) E5 (List.mem_cons_of_mem _ List.mem_cons_self) f1 (fun p hp => by rcases List.mem_cons.1 hp with rfl | hp; exact ⟨List.mem_cons_self, by show b2 ≠ b1; omega⟩; exact ⟨List.mem_cons_of_mem _ (List.mem_cons_of_mem _ hp), Nat.ne_of_lt (g1 p hp)⟩)
              obtain ⟨v6, hv6⟩ : ∃ V, V = World.setCell v5 ⟨b1, 0, none⟩ (.int .i64 (less2_1 c k i).vars) := ⟨_, rfl⟩
              rw [← hv6] at E6 ⊢
              clear hv6
              refine hK.out _ _ (E6.cell (List.mem_cons_of_mem _ (List.mem_cons_of_mem _ m_m))) (fun hHeld => ?_)
              clear hK K
              try simp only [Act.put, List.setIfInBounds_toArray, List.set_cons_zero, List.set_cons_succ]
              refine wpAnyH_ready (rs := [13]) (by kernel_rfl) (by simp) ?_
              refine AllReadyH.cons rfl (fun K hK => ?_) AllReadyH.nil
              have qc := Env.cell E6 (List.mem_cons_of_mem _ List.mem_cons_self)
              have qz := Env.frozen E6 (List.mem_cons_of_mem _ List.mem_cons_self)
              go_simp
              clear qc qz
              have E7 := Env.poke (v' := .int .i64 (less2_3 c k i).vars) (l' := _ :: l) E6 (List.mem_cons_of_mem _ List.mem_cons_self) f2 (fun p hp => by rcases List.mem_cons.1 hp with rfl | hp; exact ⟨List.mem_cons_self, by show b1 ≠ b2; omega⟩; exact ⟨List.mem_cons_of_mem _ (List.mem_cons_of_mem _ hp), Nat.ne_of_lt (g2 p hp)⟩)
              obtain ⟨v7, hv7⟩ : ∃ V, V = World.setCell v6 ⟨b2, 0, none⟩ (.int .i64 (less2_3 c k i).vars) := ⟨_, rfl⟩
              rw [← hv7] at E7 ⊢
              clear hv7
              refine hK.out _ _ (E7.cell (List.mem_cons_of_mem _ (List.mem_cons_of_mem _ m_m))) (fun hHeld => ?_)
              clear hK K
              try simp only [Act.put, List.setIfInBounds_toArray, List.set_cons_zero, List.set_cons_succ]
              refine wpAnyH_done (by kernel_rfl) ?_ _
              exact ⟨b1, b2, rfl, hr1, hr2, hr3, hr4, E7⟩
            · have f2 := Env.base E3
              have g2 : ∀ p ∈ l, p.1 < _ := fun p hp => Env.lt E3 (List.mem_cons_of_mem _ hp)
              have gne := Env.lt E3 List.mem_cons_self
              have E4 := Env.box E3 (.int .i64 0) 3
              go_simp
              try simp only [World.size_drew] at f2 g2 E4 gne
              obtain ⟨v4, hv4⟩ : ∃ V, V = World.alloc v3 (.cells #[.int .i64 0] 3) := ⟨_, rfl⟩
              rw [← hv4] at E4 ⊢
              clear hv4
              generalize v3.heap.size = b2 at f2 g2 E4 gne ⊢
              refine hK.out _ _ (E4.cell (List.mem_cons_of_mem _ (List.mem_cons_of_mem _ m_m))) (fun hHeld => ?_)
              clear hK K
              try simp only [Act.put, List.setIfInBounds_toArray, List.set_cons_zero, List.set_cons_succ]
              refine wpAnyH_ready (rs := [9]) (by kernel_rfl) (by simp) ?_
              refine AllReadyH.cons rfl (fun K hK => ?_) AllReadyH.nil
              go_simp
              refine (load_any (less2_2 c k i).vars 0 hr3 hz_0 E4).mono ?_
              rintro e v5 ⟨rfl, E5_⟩
              have E5 : Env B w0 bm _ (n + 9) (less2_4 c k i) k v5 := E5_
              clear E5_
              try go_wp2_with fail
              refine hK.out _ _ (E5.cell (List.mem_cons_of_mem _ (List.mem_cons_of_mem _ m_m))) (fun hHeld => ?_)
              clear hK K
              try simp only [Act.put, List.setIfInBounds_toArray, List.set_cons_zero, List.set_cons_succ]
              have hr4 := InI.vars E4
              refine wpAnyH_ready (rs := [12]) (by kernel_rfl) (by simp) ?_
              refine AllReadyH.cons rfl (fun K hK => ?_) AllReadyH.nil
              have qc := Env.cell E5 (List.mem_cons_of_mem _ List.mem_cons_self)
              have qz := Env.frozen E5 (List.mem_cons_of_mem _ List.mem_cons_self)
              go_simp
              clear qc qz
              have E6 := Env.poke (v' := .int .i64 (less2_1 c k i).vars) (l' := _ :: l) E5 (List.mem_cons_of_mem _ List.mem_cons_self) f1 (fun p hp => by rcases List.mem_cons.1 hp with rfl | hp; exact ⟨List.mem_cons_self, by show b2 ≠ b1; omega⟩; exact ⟨List.mem_cons_of_mem _ (List.mem_cons_of_mem _ hp), Nat.ne_of_lt (g1 p hp)⟩)
              obtain ⟨v6, hv6⟩ : ∃ V, V = World.setCell v5 ⟨b1, 0, none⟩ (.int .i64 (less2_1 c k i).vars) := ⟨_, rfl⟩
              rw [← hv6] at E6 ⊢
              clear hv6
              refine hK.out _ _ (E6.cell (List.mem_cons_of_mem _ (List.mem_cons_of_mem _ m_m))) (fun hHeld => ?_)
              clear hK K
              try simp only [Act.put, List.setIfInBounds_toArray, List.set_cons_zero, List.set_cons_succ]
              refine wpAnyH_ready (rs := [13]) (by kernel_rfl) (by simp) ?_
              refine AllReadyH.cons rfl (fun K hK => ?_) AllReadyH.nil
              have qc := Env.cell E6 (List.mem_cons_of_mem _ List.mem_cons_self)
              have qz := Env.frozen E6 (List.mem_cons_of_mem _ List.mem_cons_self)
              go_simp
              clear qc qz
              have E7 := Env.poke (v' := .int .i64 (less2_3 c k i).vars) (l' := _ :: l) E6 (List.mem_cons_of_mem _ List.mem_cons_self) f2 (fun p hp => by rcases List.mem_cons.1 hp with rfl | hp; exact ⟨List.mem_cons_self, by show b1 ≠ b2; omega⟩; exact ⟨List.mem_cons_of_mem _ (List.mem_cons_of_mem _ hp), Nat.ne_of_lt (g2 p hp)⟩)
              obtain ⟨v7, hv7⟩ : ∃ V, V = World.setCell v6 ⟨b2, 0, none⟩ (.int .i64 (less2_3 c k i).vars) := ⟨_, rfl⟩
              rw [← hv7] at E7 ⊢
              clear hv7
              refine hK.out _ _ (E7.cell (List.mem_cons_of_mem _ (List.mem_cons_of_mem _ m_m))) (fun hHeld => ?_)
              clear hK K
              try simp only [Act.put, List.setIfInBounds_toArray, List.set_cons_zero, List.set_cons_succ]
              refine wpAnyH_done (by kernel_rfl) ?_ _
              exact ⟨b1, b2, rfl, hr1, hr2, hr3, hr4, E7⟩
          · have f2 := Env.base E2
            have g2 : ∀ p ∈ l, p.1 < _ := fun p hp => Env.lt E2 hp
            have E3 := Env.box E2 (.int .i64 0) 3
            go_simp
            try simp only [World.size_drew] at f2 g2 E3
            obtain ⟨v3, hv3⟩ : ∃ V, V = World.alloc v2 (.cells #[.int .i64 0] 3) := ⟨_, rfl⟩
            rw [← hv3] at E3 ⊢
            clear hv3
            generalize v2.heap.size = b2 at f2 g2 E3 ⊢
            refine hK.out _ _ (E3.cell (List.mem_cons_of_mem _ m_m)) (fun hHeld => ?_)
            clear hK K
            try simp only [Act.put, List.setIfInBounds_toArray, List.set_cons_zero, List.set_cons_succ]
            refine wpAnyH_ready (rs := [9, 10]) (by kernel_rfl) (by simp) ?_
            refine AllReadyH.cons rfl (fun K hK => ?_) (AllReadyH.cons rfl (fun K hK => ?_) AllReadyH.nil)
            · go_simp
              refine (load_any (less2_2 c k i).vars 0 hr3 hz_0 E3).mono ?_
              rintro e v4 ⟨rfl, E4_⟩
              have E4 : Env B w0 bm _ (n + 9) (less2_4 c k i) k v4 := E4_
              clear E4_
              try go_wp2_with fail
              refine hK.out _ _ (E4.cell (List.mem_cons_of_mem _ m_m)) (fun hHeld => ?_)
              clear hK K
              try simp only [Act.put, List.setIfInBounds_toArray, List.set_cons_zero, List.set_cons_succ]
              have hr4 := InI.vars E3
              refine wpAnyH_ready (rs := [10]) (by kernel_rfl) (by simp) ?_
              refine AllReadyH.cons rfl (fun K hK => ?_) AllReadyH.nil
              have f1 := Env.base E4
              have g1 : ∀ p ∈ l, p.1 < _ := fun p hp => Env.lt E4 (List.mem_cons_of_mem _ hp)
              have gne := Env.lt E4 List.mem_cons_self
              have E5 := Env.box E4 (.int .i64 0) 3
              go_simp
              try simp only [World.size_drew] at f1 g1 E5 gne
              obtain ⟨v5, hv5⟩ : ∃ V, V = World.alloc v4 (.cells #[.int .i64 0] 3) := ⟨_, rfl⟩
              rw [← hv5] at E5 ⊢
              clear hv5
              generalize v4.heap.size = b1 at f1 g1 E5 gne ⊢
              refine hK.out _ _ (E5.cell (List.mem_cons_of_mem _ (List.mem_cons_of_mem _ m_m))) (fun hHeld => ?_)
              clear hK K
              try simp only [Act.put, List.setIfInBounds_toArray, List.set_cons_zero, List.set_cons_succ]
              refine wpAnyH_ready (rs := [12]) (by kernel_rfl) (by simp) ?_
              refine AllReadyH.cons rfl (fun K hK => ?_) AllReadyH.nil
              have qc := Env.cell E5 List.mem_cons_self
              have qz := Env.frozen E5 List.mem_cons_self
              go_simp
              clear qc qz
              have E6 := Env.poke (v' := .int .i64 (less2_1 c k i).vars) (l' := _ :: l) E5 List.mem_cons_self f1 (fun p hp => by rcases List.mem_cons.1 hp with rfl | hp; exact ⟨(List.mem_cons_of_mem _ List.mem_cons_self), by show b2 ≠ b1; omega⟩; exact ⟨List.mem_cons_of_mem _ (List.mem_cons_of_mem _ hp), Nat.ne_of_lt (g1 p hp)⟩)
              obtain ⟨v6, hv6⟩ : ∃ V, V = World.setCell v5 ⟨b1, 0, none⟩ (.int .i64 (less2_1 c k i).vars) := ⟨_, rfl⟩
              rw [← hv6] at E6 ⊢
              clear hv6
              refine hK.out _ _ (E6.cell (List.mem_cons_of_mem _ (List.mem_cons_of_mem _ m_m))) (fun hHeld => ?_)
              clear hK K
              try simp only [Act.put, List.setIfInBounds_toArray, List.set_cons_zero, List.set_cons_succ]
              refine wpAnyH_ready (rs := [13]) (by kernel_rfl) (by simp) ?_
              refine AllReadyH.cons rfl (fun K hK => ?_) AllReadyH.nil
              have qc := Env.cell E6 (List.mem_cons_of_mem _ List.mem_cons_self)
              have qz := Env.frozen E6 (List.mem_cons_of_mem _ List.mem_cons_self)
              go_simp
              clear qc qz
              have E7 := Env.poke (v' := .int .i64 (less2_3 c k i).vars) (l' := _ :: l) E6 (List.mem_cons_of_mem _ List.mem_cons_self) f2 (fun p hp => by rcases List.mem_cons.1 hp with rfl | hp; exact ⟨List.mem_cons_self, by show b1 ≠ b2; omega⟩; exact ⟨List.mem_cons_of_mem _ (List.mem_cons_of_mem _ hp), Nat.ne_of_lt (g2 p hp)⟩)
              obtain ⟨v7, hv7⟩ : ∃ V, V = World.setCell v6 ⟨b2, 0, none⟩ (.int .i64 (less2_3 c k i).vars) := ⟨_, rfl⟩
              rw [← hv7] at E7 ⊢
              clear hv7
              refine hK.out _ _ (E7.cell (List.mem_cons_of_mem _ (List.mem_cons_of_mem _ m_m))) (fun hHeld => ?_)
              clear hK K
              try simp only [Act.put, List.setIfInBounds_toArray, List.set_cons_zero, List.set_cons_succ]
              refine wpAnyH_done (by kernel_rfl) ?_ _
              exact ⟨b1, b2, rfl, hr1, hr2, hr3, hr4, E7⟩
            · have f1 := Env.base E3
              have g1 : ∀ p ∈ l, p.1 < _ := fun p hp => Env.lt E3 (List.mem_cons_of_mem _ hp)
              have gne := Env.lt E3 List.mem_cons_self
              have E4 := Env.box E3 (.int .i64 0) 3
              go_simp
              try simp only [World.size_drew] at f1 g1 E4 gne
              obtain ⟨v4, hv4⟩ : ∃ V, V = World.alloc v3 (.cells #[.int .i64 0] 3) := ⟨_, rfl⟩
              rw [← hv4] at E4 ⊢
              clear hv4
              generalize v3.heap.size = b1 at f1 g1 E4 gne ⊢
              refine hK.out _ _ (E4.cell (List.mem_cons_of_mem _ (List.mem_cons_of_mem _ m_m))) (fun hHeld => ?_)
              clear hK K
              try simp only [Act.put, List.setIfInBounds_toArray, List.set_cons_zero, List.set_cons_succ]
              refine wpAnyH_ready (rs := [9]) (by kernel_rfl) (by simp) ?_
              refine AllReadyH.cons rfl (fun K hK => ?_) AllReadyH.nil
              go_simp
              refine (load_any (less2_2 c k i).vars 0 hr3 hz_0 E4).mono ?_
              rintro e v5 ⟨rfl, E5_⟩
              have E5 : Env B w0 bm _ (n + 9) (less2_4 c k i) k v5 := E5_
              clear E5_
              try go_wp2_with fail
              refine hK.out _ _ (E5.cell (List.mem_cons_of_mem _ (List.mem_cons_of_mem _ m_m))) (fun hHeld => ?_)
              clear hK K
              try simp only [Act.put, List.setIfInBounds_toArray, List.set_cons_zero, List.set_cons_succ]
              have hr4 := InI.vars E4
              refine wpAnyH_ready (rs := [12]) (by kernel_rfl) (by simp) ?_
              refine AllReadyH.cons rfl (fun K hK => ?_) AllReadyH.nil
              have qc := Env.cell E5 List.mem_cons_self
              have qz := Env.frozen E5 List.mem_cons_self
              go_simp
              clear qc qz
              have E6 := Env.poke (v' := .int .i64 (less2_1 c k i).vars) (l' := _ :: l) E5 List.mem_cons_self f1 (fun p hp => by rcases List.mem_cons.1 hp with rfl | hp; exact ⟨(List.mem_cons_of_mem _ List.mem_cons_self), by show b2 ≠ b1; omega⟩; exact ⟨List.mem_cons_of_mem _ (List.mem_cons_of_mem _ hp), Nat.ne_of_lt (g1 p hp)⟩)
              obtain ⟨v6, hv6⟩ : ∃ V, V = World.setCell v5 ⟨b1, 0, none⟩ (.int .i64 (less2_1 c k i).vars) := ⟨_, rfl⟩
              rw [← hv6] at E6 ⊢
              clear hv6
              refine hK.out _ _ (E6.cell (List.mem_cons_of_mem _ (List.mem_cons_of_mem _ m_m))) (fun hHeld => ?_)
              clear hK K
              try simp only [Act.put, List.setIfInBounds_toArray, List.set_cons_zero, List.set_cons_succ]
              refine wpAnyH_ready (rs := [13]) (by kernel_rfl) (by simp) ?_
              refine AllReadyH.cons rfl (fun K hK => ?_) AllReadyH.nil
              have qc := Env.cell E6 (List.mem_cons_of_mem _ List.mem_cons_self)
              have qz := Env.frozen E6 (List.mem_cons_of_mem _ List.mem_cons_self)
              go_simp
              clear qc qz
              have E7 := Env.poke (v' := .int .i64 (less2_3 c k i).vars) (l' := _ :: l) E6 (List.mem_cons_of_mem _ List.mem_cons_self) f2 (fun p hp => by rcases List.mem_cons.1 hp with rfl | hp; exact ⟨List.mem_cons_self, by show b1 ≠ b2; omega⟩; exact ⟨List.mem_cons_of_mem _ (List.mem_cons_of_mem _ hp), Nat.ne_of_lt (g2 p hp)⟩)
              obtain ⟨v7, hv7⟩ : ∃ V, V = World.setCell v6 ⟨b2, 0, none⟩ (.int .i64 (less2_3 c k i).vars) := ⟨_, rfl⟩
              rw [← hv7] at E7 ⊢
              clear hv7
              refine hK.out _ _ (E7.cell (List.mem_cons_of_mem _ (List.mem_cons_of_mem _ m_m))) (fun hHeld => ?_)
              clear hK K
              try simp only [Act.put, List.setIfInBounds_toArray, List.set_cons_zero, List.set_cons_succ]
              refine wpAnyH_done (by kernel_rfl) ?_ _
              exact ⟨b1, b2, rfl, hr1, hr2, hr3, hr4, E7⟩
        · have f1 := Env.base E1
          have g1 : ∀ p ∈ l, p.1 < _ := fun p hp => Env.lt E1 hp
          have E2 := Env.box E1 (.int .i64 0) 3
          go_simp
          try simp only [World.size_drew] at f1 g1 E2
          obtain ⟨v2, hv2⟩ : ∃ V, V = World.alloc v1 (.cells #[.int .i64 0] 3) := ⟨_, rfl⟩
          rw [← hv2] at E2 ⊢
          clear hv2
          generalize v1.heap.size = b1 at f1 g1 E2 ⊢
          refine hK.out _ _ (E2.cell (List.mem_cons_of_mem _ m_m)) (fun hHeld => ?_)
          clear hK K
          try simp only [Act.put, List.setIfInBounds_toArray, List.set_cons_zero, List.set_cons_succ]
          refine wpAnyH_ready (rs := [8, 11]) (by kernel_rfl) (by simp) ?_
          refine AllReadyH.cons rfl (fun K hK => ?_) (AllReadyH.cons rfl (fun K hK => ?_) AllReadyH.nil)
          · go_simp
            refine (math_any ⟨#[43]⟩ 2 i hz_2 h_i (by decide) E2).mono ?_
            rintro e v3 ⟨rfl, E3_⟩
            have E3 : Env B w0 bm _ (n + 11) (less2_3 c k i) k v3 := E3_
            clear E3_
            try go_wp2_with fail
            refine hK.out _ _ (E3.cell (List.mem_cons_of_mem _ m_m)) (fun hHeld => ?_)
            clear hK K
            try simp only [Act.put, List.setIfInBounds_toArray, List.set_cons_zero, List.set_cons_succ]
            have hr3 := InI.vars E2
            refine wpAnyH_ready (rs := [9, 11]) (by kernel_rfl) (by simp) ?_
            refine AllReadyH.cons rfl (fun K hK => ?_) (AllReadyH.cons rfl (fun K hK => ?_) AllReadyH.nil)
            · go_simp
              refine (load_any (less2_2 c k i).vars 0 hr3 hz_0 E3).mono ?_
              rintro e v4 ⟨rfl, E4_⟩
              have E4 : Env B w0 bm _ (n + 9) (less2_4 c k i) k v4 := E4_
              clear E4_
              try go_wp2_with fail
              refine hK.out _ _ (E4.cell (List.mem_cons_of_mem _ m_m)) (fun hHeld => ?_)
              clear hK K
              try simp only [Act.put, List.setIfInBounds_toArray, List.set_cons_zero, List.set_cons_succ]
              have hr4 := InI.vars E3
              refine wpAnyH_ready (rs := [11]) (by kernel_rfl) (by simp) ?_
              refine AllReadyH.cons rfl (fun K hK => ?_) AllReadyH.nil
              have f2 := Env.base E4
              have g2 : ∀ p ∈ l, p.1 < _ := fun p hp => Env.lt E4 (List.mem_cons_of_mem _ hp)
              have gne := Env.lt E4 List.mem_cons_self
              have E5 := Env.box E4 (.int .i64 0) 3
              go_simp
              try simp only [World.size_drew] at f2 g2 E5 gne
              obtain ⟨v5, hv5⟩ : ∃ V, V = World.alloc v4 (.cells #[.int .i64 0] 3) := ⟨_, rfl⟩
              rw [← hv5] at E5 ⊢
              clear hv5
              generalize v4.heap.size = b2 at f2 g2 E5 gne ⊢
              refine hK.out _ _ (E5.cell (List.mem_cons_of_mem _ (List.mem_cons_of_mem _ m_m))) (fun hHeld => ?_)
              clear hK K
              try simp only [Act.put, List.setIfInBounds_toArray, List.set_cons_zero, List.set_cons_succ]
              refine wpAnyH_ready (rs := [12]) (by kernel_rfl) (by simp) ?_
              refine AllReadyH.cons rfl (fun K hK => ?_) AllReadyH.nil
              have qc := Env.cell E5 (List.mem_cons_of_mem _ List.mem_cons_self)
              have qz := Env.frozen E5 (List.mem_cons_of_mem _ List.mem_cons_self)
              go_simp
              clear qc qz
              have E6 := Env.poke (v' := .int .i64 (less2_1 c k i).vars) (l' := _ :: l) E5 (List.mem_cons_of_mem _ List.mem_cons_self) f1 (fun p hp => by rcases List.mem_cons.1 hp with rfl | hp; exact ⟨List.mem_cons_self, by show b2 ≠ b1; omega⟩; exact ⟨List.mem_cons_of_mem _ (List.mem_cons_of_mem _ hp), Nat.ne_of_lt (g1 p hp)⟩)
              obtain ⟨v6, hv6⟩ : ∃ V, V = World.setCell v5 ⟨b1, 0, none⟩ (.int .i64 (less2_1 c k i).vars) := ⟨_, rfl⟩
              rw [← hv6] at E6 ⊢
              clear hv6
              refine hK.out _ _ (E6.cell (List.mem_cons_of_mem _ (List.mem_cons_of_mem _ m_m))) (fun hHeld => ?_)
              clear hK K
              try simp only [Act.put, List.setIfInBounds_toArray, List.set_cons_zero, List.set_cons_succ]
              refine wpAnyH_ready (rs := [13]) (by kernel_rfl) (by simp) ?_
              refine AllReadyH.cons rfl (fun K hK => ?_) AllReadyH.nil
              have qc := Env.cell E6 (List.mem_cons_of_mem _ List.mem_cons_self)
              have qz := Env.frozen E6 (List.mem_cons_of_mem _ List.mem_cons_self)
              go_simp
              clear qc qz
              have E7 := Env.poke (v' := .int .i64 (less2_3 c k i).vars) (l' := _ :: l) E6 (List.mem_cons_of_mem _ List.mem_cons_self) f2 (fun p hp => by rcases List.mem_cons.1 hp with rfl | hp; exact ⟨List.mem_cons_self, by show b1 ≠ b2; omega⟩; exact ⟨List.mem_cons_of_mem _ (List.mem_cons_of_mem _ hp), Nat.ne_of_lt (g2 p hp)⟩)
              obtain ⟨v7, hv7⟩ : ∃ V, V = World.setCell v6 ⟨b2, 0, none⟩ (.int .i64 (less2_3 c k i).vars) := ⟨_, rfl⟩
              rw [← hv7] at E7 ⊢
              clear hv7
              refine hK.out _ _ (E7.cell (List.mem_cons_of_mem _ (List.mem_cons_of_mem _ m_m))) (fun hHeld => ?_)
              clear hK K
              try simp only [Act.put, List.setIfInBounds_toArray, List.set_cons_zero, List.set_cons_succ]
              refine wpAnyH_done (by kernel_rfl) ?_ _
              exact ⟨b1, b2, rfl, hr1, hr2, hr3, hr4, E7⟩
            · have f2 := Env.base E3
              have g2 : ∀ p ∈ l, p.1 < _ := fun p hp => Env.lt E3 (List.mem_cons_of_mem _ hp)
              have gne := Env.lt E3 List.mem_cons_self
              have E4 := Env.box E3 (.int .i64 0) 3
              go_simp
              try simp only [World.size_drew] at f2 g2 E4 gne
              obtain ⟨v4, hv4⟩ : ∃ V, V = World.alloc v3 (.cells #[.int .i64 0] 3) := ⟨_, rfl⟩
              rw [← hv4] at E4 ⊢
              clear hv4
              generalize v3.heap.size = b2 at f2 g2 E4 gne ⊢
              refine hK.out _ _ (E4.cell (List.mem_cons_of_mem _ (List.mem_cons_of_mem _ m_m))) (fun hHeld => ?_)
              clear hK K
              try simp only [Act.put, List.setIfInBounds_toArray, List.set_cons_zero, List.set_cons_succ]
              refine wpAnyH_ready (rs := [9]) (by kernel_rfl) (by simp) ?_
              refine AllReadyH.cons rfl (fun K hK => ?_) AllReadyH.nil
              go_simp
              refine (load_any (less2_2 c k i).vars 0 hr3 hz_0 E4).mono ?_
              rintro e v5 ⟨rfl, E5_⟩
              have E5 : Env B w0 bm _ (n + 9) (less2_4 c k i) k v5 := E5_
              clear E5_
              try go_wp2_with fail
              refine hK.out _ _ (E5.cell (List.mem_cons_of_mem _ (List.mem_cons_of_mem _ m_m))) (fun hHeld => ?_)
              clear hK K
              try simp only [Act.put, List.setIfInBounds_toArray, List.set_cons_zero, List.set_cons_succ]
              have hr4 := InI.vars E4
              refine wpAnyH_ready (rs := [12]) (by kernel_rfl) (by simp) ?_
              refine AllReadyH.cons rfl (fun K hK => ?_) AllReadyH.nil
              have qc := Env.cell E5 (List.mem_cons_of_mem _ List.mem_cons_self)
              have qz := Env.frozen E5 (List.mem_cons_of_mem _ List.mem_cons_self)
              go_simp
              clear qc qz
              have E6 := Env.poke (v' := .int .i64 (less2_1 c k i).vars) (l' := _ :: l) E5 (List.mem_cons_of_mem _ List.mem_cons_self) f1 (fun p hp => by rcases List.mem_cons.1 hp with rfl | hp; exact ⟨List.mem_cons_self, by show b2 ≠ b1; omega⟩; exact ⟨List.mem_cons_of_mem _ (List.mem_cons_of_mem _ hp), Nat.ne_of_lt (g1 p hp)⟩)
              obtain ⟨v6, hv6⟩ : ∃ V, V = World.setCell v5 ⟨b1, 0, none⟩ (.int .i64 (less2_1 c k i).vars) := ⟨_, rfl⟩
              rw [← hv6] at E6 ⊢
              clear hv6
              refine hK.out _ _ (E6.cell (List.mem_cons_of_mem _ (List.mem_cons_of_mem _ m_m))) (fun hHeld => ?_)
              clear hK K
              try simp only [Act.put, List.setIfInBounds_toArray, List.set_cons_zero, List.set_cons_succ]
              refine wpAnyH_ready (rs := [13]) (by kernel_rfl) (by simp) ?_
              refine AllReadyH.cons rfl (fun K hK => ?_) AllReadyH.nil
              have qc := Env.cell E6 (List.mem_cons_of_mem _ List.mem_cons_self)
              have qz := Env.frozen E6 (List.mem_cons_of_mem _ List.mem_cons_self)
              go_simp
              clear qc qz
              have E7 := Env.poke (v' := .int .i64 (less2_3 c k i).vars) (l' := _ :: l) E6 (List.mem_cons_of_mem _ List.mem_cons_self) f2 (fun p hp => by rcases List.mem_cons.1 hp with rfl | hp; exact ⟨List.mem_cons_self, by show b1 ≠ b2; omega⟩; exact ⟨List.mem_cons_of_mem _ (List.mem_cons_of_mem _ hp), Nat.ne_of_lt (g2 p hp)⟩)
              obtain ⟨v7, hv7⟩ : ∃ V, V = World.setCell v6 ⟨b2, 0, none⟩ (.int .i64 (less2_3 c k i).vars) := ⟨_, rfl⟩
              rw [← hv7] at E7 ⊢
              clear hv7
              refine hK.out _ _ (E7.cell (List.mem_cons_of_mem _ (List.mem_cons_of_mem _ m_m))) (fun hHeld => ?_)
              clear hK K
              try simp only [Act.put, List.setIfInBounds_toArray, List.set_cons_zero, List.set_cons_succ]
              refine wpAnyH_done (by kernel_rfl) ?_ _
              exact ⟨b1, b2, rfl, hr1, hr2, hr3, hr4, E7⟩
          · have f2 := Env.base E2
            have g2 : ∀ p ∈ l, p.1 < _ := fun p hp => Env.lt E2 (List.mem_cons_of_mem _ hp)
            have gne := Env.lt E2 List.mem_cons_self
            have E3 := Env.box E2 (.int .i64 0) 3
            go_simp
            try simp only [World.size_drew] at f2 g2 E3 gne
            obtain ⟨v3, hv3⟩ : ∃ V, V = World.alloc v2 (.cells #[.int .i64 0] 3) := ⟨_, rfl⟩
            rw [← hv3] at E3 ⊢
            clear hv3
            generalize v2.heap.size = b2 at f2 g2 E3 gne ⊢
            refine hK.out _ _ (E3.cell (List.mem_cons_of_mem _ (List.mem_cons_of_mem _ m_m))) (fun hHeld => ?_)
            clear hK K
            try simp only [Act.put, List.setIfInBounds_toArray, List.set_cons_zero, List.set_cons_succ]
            refine wpAnyH_ready (rs := [8]) (by kernel_rfl) (by simp) ?_
            refine AllReadyH.cons rfl (fun K hK => ?_) AllReadyH.nil
            go_simp
            refine (math_any ⟨#[43]⟩ 2 i hz_2 h_i (by decide) E3).mono ?_
            rintro e v4 ⟨rfl, E4_⟩
            have E4 : Env B w0 bm _ (n + 11) (less2_3 c k i) k v4 := E4_
            clear E4_
            try go_wp2_with fail
            refine hK.out _ _ (E4.cell (List.mem_cons_of_mem _ (List.mem_cons_of_mem _ m_m))) (fun hHeld => ?_)
            clear hK K
            try simp only [Act.put, List.setIfInBounds_toArray, List.set_cons_zero, List.set_cons_succ]
            have hr3 := InI.vars E3
            refine wpAnyH_ready (rs := [9]) (by kernel_rfl) (by simp) ?_
            refine AllReadyH.cons rfl (fun K hK => ?_) AllReadyH.nil
            go_simp
            refine (load_any (less2_2 c k i).vars 0 hr3 hz_0 E4).mono ?_
            rintro e v5 ⟨rfl, E5_⟩
            have E5 : Env B w0 bm _ (n + 9) (less2_4 c k i) k v5 := E5_
            clear E5_
            try go_wp2_with fail
            refine hK.out _ _ (E5.cell (List.mem_cons_of_mem _ (List.mem_cons_of_mem _ m_m))) (fun hHeld => ?_)
            clear hK K
            try simp only [Act.put, List.setIfInBounds_toArray, List.set_cons_zero, List.set_cons_succ]
            have hr4 := InI.vars E4
            refine wpAnyH_ready (rs := [12]) (by kernel_rfl) (by simp) ?_
            refine AllReadyH.cons rfl (fun K hK => ?_) AllReadyH.nil
            have qc := Env.cell E5 (List.mem_cons_of_mem _ List.mem_cons_self)
            have qz := Env.frozen E5 (List.mem_cons_of_mem _ List.mem_cons_self)
            go_simp
            clear qc qz
            have E6 := Env.poke (v' := .int .i64 (less2_1 c k i).vars) (l' := _ :: l) E5 (List.mem_cons_of_mem _ List.mem_cons_self) f1 (fun p hp => by rcases List.mem_cons.1 hp with rfl | hp; exact ⟨List.mem_cons_self, by show b2 ≠ b1; omega⟩; exact ⟨List.mem_cons_of_mem _ (List.mem_cons_of_mem _ hp), Nat.ne_of_lt (g1 p hp)⟩)
            obtain ⟨v6, hv6⟩ : ∃ V, V = World.setCell v5 ⟨b1, 0, none⟩ (.int .i64 (less2_1 c k i).vars) := ⟨_, rfl⟩
            rw [← hv6] at E6 ⊢
            clear hv6
            refine hK.out _ _ (E6.cell (List.mem_cons_of_mem _ (List.mem_cons_of_mem _ m_m))) (fun hHeld => ?_)
            clear hK K
            try simp only [Act.put, List.setIfInBounds_toArray, List.set_cons_zero, List.set_cons_succ]
            refine wpAnyH_ready (rs := [13]) (by kernel_rfl) (by simp) ?_
            refine AllReadyH.cons rfl (fun K hK => ?_) AllReadyH.nil
            have qc := Env.cell E6 (List.mem_cons_of_mem _ List.mem_cons_self)
            have qz := Env.frozen E6 (List.mem_cons_of_mem _ List.mem_cons_self)
            go_simp
            clear qc qz
            have E7 := Env.poke (v' := .int .i64 (less2_3 c k i).vars) (l' := _ :: l) E6 (List.mem_cons_of_mem _ List.mem_cons_self) f2 (fun p hp => by rcases List.mem_cons.1 hp with rfl | hp; exact ⟨List.mem_cons_self, by show b1 ≠ b2; omega⟩; exact ⟨List.mem_cons_of_mem _ (List.mem_cons_of_mem _ hp), Nat.ne_of_lt (g2 p hp)⟩)
            obtain ⟨v7, hv7⟩ : ∃ V, V = World.setCell v6 ⟨b2, 0, none⟩ (.int .i64 (less2_3 c k i).vars) := ⟨_, rfl⟩
            rw [← hv7] at E7 ⊢
            clear hv7
            refine hK.out _ _ (E7.cell (List.mem_cons_of_mem _ (List.mem_cons_of_mem _ m_m))) (fun hHeld => ?_)
            clear hK K
            try simp only [Act.put, List.setIfInBounds_toArray, List.set_cons_zero, List.set_cons_succ]
            refine wpAnyH_done (by kernel_rfl) ?_ _
            exact ⟨b1, b2, rfl, hr1, hr2, hr3, hr4, E7⟩
        · have f2 := Env.base E1
          have g2 : ∀ p ∈ l, p.1 < _ := fun p hp => Env.lt E1 hp
          have E2 := Env.box E1 (.int .i64 0) 3
          go_simp
          try simp only [World.size_drew] at f2 g2 E2
          obtain ⟨v2, hv2⟩ : ∃ V, V = World.alloc v1 (.cells #[.int .i64 0] 3) := ⟨_, rfl⟩
          rw [← hv2] at E2 ⊢
          clear hv2
          generalize v1.heap.size = b2 at f2 g2 E2 ⊢
          refine hK.out _ _ (E2.cell (List.mem_cons_of_mem _ m_m)) (fun hHeld => ?_)
          clear hK K
          try simp only [Act.put, List.setIfInBounds_toArray, List.set_cons_zero, List.set_cons_succ]
          refine wpAnyH_ready (rs := [8, 10]) (by kernel_rfl) (by simp) ?_
          refine AllReadyH.cons rfl (fun K hK => ?_) (AllReadyH.cons rfl (fun K hK => ?_) AllReadyH.nil)
          · go_simp
            refine (math_any ⟨#[43]⟩ 2 i hz_2 h_i (by decide) E2).mono ?_
            rintro e v3 ⟨rfl, E3_⟩
            have E3 : Env B w0 bm _ (n + 11) (less2_3 c k i) k v3 := E3_
            clear E3_
            try go_wp2_with fail
            refine hK.out _ _ (E3.cell (List.mem_cons_of_mem _ m_m)) (fun hHeld => ?_)
            clear hK K
            try simp only [Act.put, List.setIfInBounds_toArray, List.set_cons_zero, List.set_cons_succ]
            have hr3 := InI.vars E2
            refine wpAnyH_ready (rs := [9, 10]) (by kernel_rfl) (by simp) ?_
            refine AllReadyH.cons rfl (fun K hK => ?_) (AllReadyH.cons rfl (fun K hK => ?_) AllReadyH.nil)
            · go_simp
              refine (load_any (less2_2 c k i).vars 0 hr3 hz_0 E3).mono ?_
              rintro e v4 ⟨rfl, E4_⟩
              have E4 : Env B w0 bm _ (n + 9) (less2_4 c k i) k v4 := E4_
              clear E4_
              try go_wp2_with fail
              refine hK.out _ _ (E4.cell (List.mem_cons_of_mem _ m_m)) (fun hHeld => ?_)
              clear hK K
              try simp only [Act.put, List.setIfInBounds_toArray, List.set_cons_zero, List.set_cons_succ]
              have hr4 := InI.vars E3
              refine wpAnyH_ready (rs := [10]) (by kernel_rfl) (by simp) ?_
              refine AllReadyH.cons rfl (fun K hK => ?_) AllReadyH.nil
              have f1 := Env.base E4
              have g1 : ∀ p ∈ l, p.1 < _ := fun p hp => Env.lt E4 (List.mem_cons_of_mem _ hp)
              have gne := Env.lt E4 List.mem_cons_self
              have E5 := Env.box E4 (.int .i64 0) 3
              go_simp
              try simp only [World.size_drew] at f1 g1 E5 gne
              obtain ⟨v5, hv5⟩ : ∃ V, V = World.alloc v4 (.cells #[.int .i64 0] 3) := ⟨_, rfl⟩
              rw [← hv5] at E5 ⊢
              clear hv5
              generalize v4.heap.size = b1 at f1 g1 E5 gne ⊢
              refine hK.out _ _ (E5.cell (List.mem_cons_of_mem _ (List.mem_cons_of_mem _ m_m))) (fun hHeld => ?_)
              clear hK K
              try simp only [Act.put, List.setIfInBounds_toArray, List.set_cons_zero, List.set_cons_succ]
              refine wpAnyH_ready (rs := [12]) (by kernel_rfl) (by simp) ?_
              refine AllReadyH.cons rfl (fun K hK => ?_) AllReadyH.nil
              have qc := Env.cell E5 List.mem_cons_self
              have qz := Env.frozen E5 List.mem_cons_self
              go_simp
              clear qc qz
              have E6 := Env.poke (v' := .int .i64 (less2_1 c k i).vars) (l' := _ :: l) E5 List.mem_cons_self f1 (fun p hp => by rcases List.mem_cons.1 hp with rfl | hp; exact ⟨(List.mem_cons_of_mem _ List.mem_cons_self), by show b2 ≠ b1; omega⟩; exact ⟨List.mem_cons_of_mem _ (List.mem_cons_of_mem _ hp), Nat.ne_of_lt (g1 p hp)⟩)
              obtain ⟨v6, hv6⟩ : ∃ V, V = World.setCell v5 ⟨b1, 0, none⟩ (.int .i64 (less2_1 c k i).vars) := ⟨_, rfl⟩
              rw [← hv6] at E6 ⊢
              clear hv6
              refine hK.out _ _ (E6.cell (List.mem_cons_of_mem _ (List.mem_cons_of_mem _ m_m))) (fun hHeld => ?_)
              clear hK K
              try simp only [Act.put, List.setIfInBounds_toArray, List.set_cons_zero, List.set_cons_succ]
              refine wpAnyH_ready (rs := [13]) (by kernel_rfl) (by simp) ?_
              refine AllReadyH.cons rfl (fun K hK => ?_) AllReadyH.nil
              have qc := Env.cell E6 (List.mem_cons_of_mem _ List.mem_cons_self)
              have qz := Env.frozen E6 (List.mem_cons_of_mem _ List.mem_cons_self)
              go_simp
              clear qc qz
              have E7 := Env.poke (v' := .int .i64 (less2_3 c k i).vars) (l' := _ :: l) E6 (List.mem_cons_of_mem _ List.mem_cons_self) f2 (fun p hp => by rcases List.mem_cons.1 hp with rfl | hp; exact ⟨List.mem_cons_self, by show b1 ≠ b2; omega⟩; exact ⟨List.mem_cons_of_mem _ (List.mem_cons_of_mem _ hp), Nat.ne_of_lt (g2 p hp)⟩)
              obtain ⟨v7, hv7⟩ : ∃ V, V = World.setCell v6 ⟨b2, 0, none⟩ (.int .i64 (less2_3 c k i).vars) := ⟨_, rfl⟩
              rw [← hv7] at E7 ⊢
              clear hv7
              refine hK.out _ _ (E7.cell (List.mem_cons_of_mem _ (List.mem_cons_of_mem _ m_m))) (fun hHeld => ?_)
              clear hK K
              try simp only [Act.put, List.setIfInBounds_toArray, List.set_cons_zero, List.set_cons_succ]
              refine wpAnyH_done (by kernel_rfl) ?_ _
              exact ⟨b1, b2, rfl, hr1, hr2, hr3, hr4, E7⟩
            · have f1 := Env.base E3
              have g1 : ∀ p ∈ l, p.1 < _ := fun p hp => Env.lt E3 (List.mem_cons_of_mem _ hp)
              have gne := Env.lt E3 List.mem_cons_self
              have E4 := Env.box E3 (.int .i64 0) 3
              go_simp
              try simp only [World.size_drew] at f1 g1 E4 gne
              obtain ⟨v4, hv4⟩ : ∃ V, V = World.alloc v3 (.cells #[.int .i64 0] 3) := ⟨_, rfl⟩
              rw [← hv4] at E4 ⊢
              clear hv4
              generalize v3.heap.size = b1 at f1 g1 E4 gne ⊢
              refine hK.out _ _ (E4.cell (List.mem_cons_of_mem _ (List.mem_cons_of_mem _ m_m))) (fun hHeld => ?_)
              clear hK K
              try simp only [Act.put, List.setIfInBounds_toArray, List.set_cons_zero, List.set_cons_succ]
              refine wpAnyH_ready (rs := [9]) (by kernel_rfl) (by simp) ?_
              refine AllReadyH.cons rfl (fun K hK => ?_) AllReadyH.nil
              go_simp
              refine (load_any (less2_2 c k i).vars 0 hr3 hz_0 E4).mono ?_
              rintro e v5 ⟨rfl, E5_⟩
              have E5 : Env B w0 bm _ (n + 9) (less2_4 c k i) k v5 := E5_
              clear E5_
              try go_wp2_with fail
              refine hK.out _ _ (E5.cell (List.mem_cons_of_mem _ (List.mem_cons_of_mem _ m_m))) (fun hHeld => ?_)
              clear hK K
              try simp only [Act.put, List.setIfInBounds_toArray, List.set_cons_zero, List.set_cons_succ]
              have hr4 := InI.vars E4
              refine wpAnyH_ready (rs := [12]) (by kernel_rfl) (by simp) ?_
              refine AllReadyH.cons rfl (fun K hK => ?_) AllReadyH.nil
              have qc := Env.cell E5 List.mem_cons_self
              have qz := Env.frozen E5 List.mem_cons_self
              go_simp
              clear qc qz
              have E6 := Env.poke (v' := .int .i64 (less2_1 c k i).vars) (l' := _ :: l) E5 List.mem_cons_self f1 (fun p hp => by rcases List.mem_cons.1 hp with rfl | hp; exact ⟨(List.mem_cons_of_mem _ List.mem_cons_self), by show b2 ≠ b1; omega⟩; exact ⟨List.mem_cons_of_mem _ (List.mem_cons_of_mem _ hp), Nat.ne_of_lt (g1 p hp)⟩)
              obtain ⟨v6, hv6⟩ : ∃ V, V = World.setCell v5 ⟨b1, 0, none⟩ (.int .i64 (less2_1 c k i).vars) := ⟨_, rfl⟩
              rw [← hv6] at E6 ⊢
              clear hv6
              refine hK.out _ _ (E6.cell (List.mem_cons_of_mem _ (List.mem_cons_of_mem _ m_m))) (fun hHeld => ?_)
              clear hK K
              try simp only [Act.put, List.setIfInBounds_toArray, List.set_cons_zero, List.set_cons_succ]
              refine wpAnyH_ready (rs := [13]) (by kernel_rfl) (by simp) ?_
              refine AllReadyH.cons rfl (fun K hK => ?_) AllReadyH.nil
              have qc := Env.cell E6 (List.mem_cons_of_mem _ List.mem_cons_self)
              have qz := Env.frozen E6 (List.mem_cons_of_mem _ List.mem_cons_self)
              go_simp
              clear qc qz
              have E7 := Env.poke (v' := .int .i64 (less2_3 c k i).vars) (l' := _ :: l) E6 (List.mem_cons_of_mem _ List.mem_cons_self) f2 (fun p hp => by rcases List.mem_cons.1 hp with rfl | hp; exact ⟨List.mem_cons_self, by show b1 ≠ b2; omega⟩; exact ⟨List.mem_cons_of_mem _ (List.mem_cons_of_mem _ hp), Nat.ne_of_lt (g2 p hp)⟩)
              obtain ⟨v7, hv7⟩ : ∃ V, V = World.setCell v6 ⟨b2, 0, none⟩ (.int .i64 (less2_3 c k i).vars) := ⟨_, rfl⟩
              rw [← hv7] at E7 ⊢
              clear hv7
              refine hK.out _ _ (E7.cell (List.mem_cons_of_mem _ (List.mem_cons_of_mem _ m_m))) (fun hHeld => ?_)
              clear hK K
              try simp only [Act.put, List.setIfInBounds_toArray, List.set_cons_zero, List.set_cons_succ]
              refine wpAnyH_done (by kernel_rfl) ?_ _
              exact ⟨b1, b2, rfl, hr1, hr2, hr3, hr4, E7⟩
          · have f1 := Env.base E2
            have g1 : ∀ p ∈ l, p.1 < _ := fun p hp => Env.lt E2 (List.mem_cons_of_mem _ hp)
            have gne := Env.lt E2 List.mem_cons_self
            have E3 := Env.box E2 (.int .i64 0) 3
            go_simp
            try simp only [World.size_drew] at f1 g1 E3 gne
            obtain ⟨v3, hv3⟩ : ∃ V, V = World.alloc v2 (.cells #[.int .i64 0] 3) := ⟨_, rfl⟩
            rw [← hv3] at E3 ⊢
            clear hv3
            generalize v2.heap.size = b1 at f1 g1 E3 gne ⊢
            refine hK.out _ _ (E3.cell (List.mem_cons_of_mem _ (List.mem_cons_of_mem _ m_m))) (fun hHeld => ?_)
            clear hK K
            try simp only [Act.put, List.setIfInBounds_toArray, List.set_cons_zero, List.set_cons_succ]
            refine wpAnyH_ready (rs := [8]) (by kernel_rfl) (by simp) ?_
            refine AllReadyH.cons rfl (fun K hK => ?_) AllReadyH.nil
            go_simp
            refine (math_any ⟨#[43]⟩ 2 i hz_2 h_i (by decide) E3).mono ?_
            rintro e v4 ⟨rfl, E4_⟩
            have E4 : Env B w0 bm _ (n + 11) (less2_3 c k i) k v4 := E4_
            clear E4_
            try go_wp2_with fail
            refine hK.out _ _ (E4.cell (List.mem_cons_of_mem _ (List.mem_cons_of_mem _ m_m))) (fun hHeld => ?_)
            clear hK K
            try simp only [Act.put, List.setIfInBounds_toArray, List.set_cons_zero, List.set_cons_succ]
            have hr3 := InI.vars E3
            refine wpAnyH_ready (rs := [9]) (by kernel_rfl) (by simp) ?_
            refine AllReadyH.cons rfl (fun K hK => ?_) AllReadyH.nil
            go_simp
            refine (load_any (less2_2 c k i).vars 0 hr3 hz_0 E4).mono ?_
            rintro e v5 ⟨rfl, E5_⟩
            have E5 : Env B w0 bm _ (n + 9) (less2_4 c k i) k v5 := E5_
            clear E5_
            try go_wp2_with fail
            refine hK.out _ _ (E5.cell (List.mem_cons_of_mem _ (List.mem_cons_of_mem _ m_m))) (fun hHeld => ?_)
            clear hK K
            try simp only [Act.put, List.setIfInBounds_toArray, List.set_cons_zero, List.set_cons_succ]
            have hr4 := InI.vars E4
            refine wpAnyH_ready (rs := [12]) (by kernel_rfl) (by simp) ?_
            refine AllReadyH.cons rfl (fun K hK => ?_) AllReadyH.nil
            have qc := Env.cell E5 List.mem_cons_self
            have qz := Env.frozen E5 List.mem_cons_self
            go_simp
            clear qc qz
            have E6 := Env.poke (v' := .int .i64 (less2_1 c k i).vars) (l' := _ :: l) E5 List.mem_cons_self f1 (fun p hp => by rcases List.mem_cons.1 hp with rfl | hp; exact ⟨(List.mem_cons_of_mem _ List.mem_cons_self), by show b2 ≠ b1; omega⟩; exact ⟨List.mem_cons_of_mem _ (List.mem_cons_of_mem _ hp), Nat.ne_of_lt (g1 p hp)⟩)
            obtain ⟨v6, hv6⟩ : ∃ V, V = World.setCell v5 ⟨b1, 0, none⟩ (.int .i64 (less2_1 c k i).vars) := ⟨_, rfl⟩
            rw [← hv6] at E6 ⊢
            clear hv6
            refine hK.out _ _ (E6.cell (List.mem_cons_of_mem _ (List.mem_cons_of_mem _ m_m))) (fun hHeld => ?_)
            clear hK K
            try simp only [Act.put, List.setIfInBounds_toArray, List.set_cons_zero, List.set_cons_succ]
            refine wpAnyH_ready (rs := [13]) (by kernel_rfl) (by simp) ?_
            refine AllReadyH.cons rfl (fun K hK => ?_) AllReadyH.nil
            have qc := Env.cell E6 (List.mem_cons_of_mem _ List.mem_cons_self)
            have qz := Env.frozen E6 (List.mem_cons_of_mem _ List.mem_cons_self)
            go_simp
            clear qc qz
            have E7 := Env.poke (v' := .int .i64 (less2_3 c k i).vars) (l' := _ :: l) E6 (List.mem_cons_of_mem _ List.mem_cons_self) f2 (fun p hp => by rcases List.mem_cons.1 hp with rfl | hp; exact ⟨List.mem_cons_self, by show b1 ≠ b2; omega⟩; exact ⟨List.mem_cons_of_mem _ (List.mem_cons_of_mem _ hp), Nat.ne_of_lt (g2 p hp)⟩)
            obtain ⟨v7, hv7⟩ : ∃ V, V = World.setCell v6 ⟨b2, 0, none⟩ (.int .i64 (less2_3 c k i).vars) := ⟨_, rfl⟩
            rw [← hv7] at E7 ⊢
            clear hv7
            refine hK.out _ _ (E7.cell (List.mem_cons_of_mem _ (List.mem_cons_of_mem _ m_m))) (fun hHeld => ?_)
            clear hK K
            try simp only [Act.put, List.setIfInBounds_toArray, List.set_cons_zero, List.set_cons_succ]
            refine wpAnyH_done (by kernel_rfl) ?_ _
            exact ⟨b1, b2, rfl, hr1, hr2, hr3, hr4, E7⟩
      · have f1 := Env.base E0
        have g1 : ∀ p ∈ l, p.1 < _ := fun p hp => Env.lt E0 hp
        have E1 := Env.box E0 (.int .i64 0) 3
        go_simp
        try simp only [World.size_drew] at f1 g1 E1
        obtain ⟨v1, hv1⟩ : ∃ V, V = World.alloc v0 (.cells #[.int .i64 0] 3) := ⟨_, rfl⟩
        rw [← hv1] at E1 ⊢
        clear hv1
        generalize v0.heap.size = b1 at f1 g1 E1 ⊢
        refine hK.out _ _ (E1.cell (List.mem_cons_of_mem _ m_m)) (fun hHeld => ?_)
        clear hK K
        try simp only [Act.put, List.setIfInBounds_toArray, List.set_cons_zero, List.set_cons_succ]
        refine wpAnyH_ready (rs := [4, 11]) (by kernel_rfl) (by simp) ?_
        refine AllReadyH.cons rfl (fun K hK => ?_) (AllReadyH.cons rfl (fun K hK => ?_) AllReadyH.nil)
        · go_simp
          refine (load_any c.vars 0 hr1 hz_0 E1).mono ?_
          rintro e v2 ⟨rfl, E2_⟩
          have E2 : Env B w0 bm _ (n + 13) (less2_2 c k i) k v2 := E2_
          clear E2_
          try go_wp2_with fail
          refine hK.out _ _ (E2.cell (List.mem_cons_of_mem _ m_m)) (fun hHeld => ?_)
          clear hK K
          try simp only [Act.put, List.setIfInBounds_toArray, List.set_cons_zero, List.set_cons_succ]
          have hr2 := InI.vars E1
          refine wpAnyH_ready (rs := [8, 11]) (by kernel_rfl) (by simp) ?_
          refine AllReadyH.cons rfl (fun K hK => ?_) (AllReadyH.cons rfl (fun K hK => ?_) AllReadyH.nil)
          · go_simp
            refine (math_any ⟨#[43]⟩ 2 i hz_2 h_i (by decide) E2).mono ?_
            rintro e v3 ⟨rfl, E3_⟩
            have E3 : Env B w0 bm _ (n + 11) (less2_3 c k i) k v3 := E3_
            clear E3_
            try go_wp2_with fail
            refine hK.out _ _ (E3.cell (List.mem_cons_of_mem _ m_m)) (fun hHeld => ?_)
            clear hK K
            try simp only [Act.put, List.setIfInBounds_toArray, List.set_cons_zero, List.set_cons_succ]
            have hr3 := InI.vars E2
            refine wpAnyH_ready (rs := [9, 11]) (by kernel_rfl) (by simp) ?_
            refine AllReadyH.cons rfl (fun K hK => ?_) (AllReadyH.cons rfl (fun K hK => ?_) AllReadyH.nil)
            · go_simp
              refine (load_any (less2_2 c k i).vars 0 hr3 hz_0 E3).mono ?_
              rintro e v4 ⟨rfl, E4_⟩
              have E4 : Env B w0 bm _ (n + 9) (less2_4 c k i) k v4 := E4_
              clear E4_
              try go_wp2_with fail
              refine hK.out _ _ (E4.cell (List.mem_cons_of_mem _ m_m)) (fun hHeld => ?_)
              clear hK K
              try simp only [Act.put, List.setIfInBounds_toArray, List.set_cons_zero, List.set_cons_succ]
              have hr4 := InI.vars E3
              refine wpAnyH_ready (rs := [11]) (by kernel_rfl) (by simp) ?_
              refine AllReadyH.cons rfl (fun K hK => ?_) AllReadyH.nil
              have f2 := Env.base E4
              have g2 : ∀ p ∈ l, p.1 < _ := fun p hp => Env.lt E4 (List.mem_cons_of_mem _ hp)
              have gne := Env.lt E4 List.mem_cons_self
              have E5 := Env.box E4 (.int .i64 0) 3
              go_simp
              try simp only [World.size_drew] at f2 g2 E5 gne
              obtain ⟨v5, hv5⟩ : ∃ V, V = World.alloc v4 (.cells #[.int .i64 0] 3) := ⟨_, rfl⟩
              rw [← hv5] at E5 ⊢
              clear hv5
              generalize v4.heap.size = b2 at f2 g2 E5 gne ⊢
              refine hK.out _ _ (E5.cell (List.mem_cons_of_mem _ (List.mem_cons_of_mem _ m_m))) (fun hHeld => ?_)
              clear hK K
              try simp only [Act.put, List.setIfInBounds_toArray, List.set_cons_zero, List.set_cons_succ]
              refine wpAnyH_ready (rs := [12]) (by kernel_rfl) (by simp) ?_
              refine AllReadyH.cons rfl (fun K hK => ?_) AllReadyH.nil
              have qc := Env.cell E5 (List.mem_cons_of_mem _ List.mem_cons_self)
              have qz := Env.frozen E5 (List.mem_cons_of_mem _ List.mem_cons_self)
              go_simp
              clear qc qz
              have E6 := Env.poke (v' := .int .i64 (less2_1 c k i).vars) (l' := _ :: l) E5 (List.mem_cons_of_mem _ List.mem_cons_self) f1 (fun p hp => by rcases List.mem_cons.1 hp with rfl | hp; exact ⟨List.mem_cons_self, by show b2 ≠ b1; omega⟩; exact ⟨List.mem_cons_of_mem _ (List.mem_cons_of_mem _ hp), Nat.ne_of_lt (g1 p hp)⟩)
              obtain ⟨v6, hv6⟩ : ∃ V, V = World.setCell v5 ⟨b1, 0, none⟩ (.int .i64 (less2_1 c k i).vars) := ⟨_, rfl⟩
              rw [← hv6] at E6 ⊢
              clear hv6
              refine hK.out _ _ (E6.cell (List.mem_cons_of_mem _ (List.mem_cons_of_mem _ m_m))) (fun hHeld => ?_)
              clear hK K
              try simp only [Act.put, List.setIfInBounds_toArray, List.set_cons_zero, List.set_cons_succ]
              refine wpAnyH_ready (rs := [13]) (by kernel_rfl) (by simp) ?_
              refine AllReadyH.cons rfl (fun K hK => ?_) AllReadyH.nil
              have qc := Env.cell E6 (List.mem_cons_of_mem _ List.mem_cons_self)
              have qz := Env.frozen E6 (List.mem_cons_of_mem _ List.mem_cons_self)
              go_simp
              clear qc qz
              have E7 := Env.poke (v' := .int .i64 (less2_3 c k i).vars) (l' := _ :: l) E6 (List.mem_cons_of_mem _ List.mem_cons_self) f2 (fun p hp => by rcases List.mem_cons.1 hp with rfl | hp; exact ⟨List.mem_cons_self, by show b1 ≠ b2; omega⟩; exact ⟨List.mem_cons_of_mem _ (List.mem_cons_of_mem _ hp), Nat.ne_of_lt (g2 p hp)⟩)
              obtain ⟨v7, hv7⟩ : ∃ V, V = World.setCell v6 ⟨b2, 0, none⟩ (.int .i64 (less2_3 c k i).vars) := ⟨_, rfl⟩
              rw [← hv7] at E7 ⊢
              clear hv7
              refine hK.out _ _ (E7.cell (List.mem_cons_of_mem _ (List.mem_cons_of_mem _ m_m))) (fun hHeld => ?_)
              clear hK K
              try simp only [Act.put, List.setIfInBounds_toArray, List.set_cons_zero, List.set_cons_succ]
              refine wpAnyH_done (by kernel_rfl) ?_ _
              exact ⟨b1, b2, rfl, hr1, hr2, hr3, hr4, E7⟩
            · have f2 := Env.base E3
              have g2 : ∀ p ∈ l, p.1 < _ := fun p hp => Env.lt E3 (List.mem_cons_of_mem _ hp)
              have gne := Env.lt E3 List.mem_cons_self
              have E4 := Env.box E3 (.int .i64 0) 3
              go_simp
              try simp only [World.size_drew] at f2 g2 E4 gne
              obtain ⟨v4, hv4⟩ : ∃ V, V = World.alloc v3 (.cells #[.int .i64 0] 3) := ⟨_, rfl⟩
              rw [← hv4] at E4 ⊢
              clear hv4
              generalize v3.heap.size = b2 at f2 g2 E4 gne ⊢
              refine hK.out _ _ (E4.cell (List.mem_cons_of_mem _ (List.mem_cons_of_mem _ m_m))) (fun hHeld => ?_)
              clear hK K
              try simp only [Act.put, List.setIfInBounds_toArray, List.set_cons_zero, List.set_cons_succ]
              refine wpAnyH_ready (rs := [9]) (by kernel_rfl) (by simp) ?_
              refine AllReadyH.cons rfl (fun K hK => ?_) AllReadyH.nil
              go_simp
              refine (load_any (less2_2 c k i).vars 0 hr3 hz_0 E4).mono ?_
              rintro e v5 ⟨rfl, E5_⟩
              have E5 : Env B w0 bm _ (n + 9) (less2_4 c k i) k v5 := E5_
              clear E5_
              try go_wp2_with fail
              refine hK.out _ _ (E5.cell (List.mem_cons_of_mem _ (List.mem_cons_of_mem _ m_m))) (fun hHeld => ?_)
              clear hK K
              try simp only [Act.put, List.setIfInBounds_toArray, List.set_cons_zero, List.set_cons_succ]
              have hr4 := InI.vars E4
              refine wpAnyH_ready (rs := [12]) (by kernel_rfl) (by simp) ?_
              refine AllReadyH.cons rfl (fun K hK => ?_) AllReadyH.nil
              have qc := Env.cell E5 (List.mem_cons_of_mem _ List.mem_cons_self)
              have qz := Env.frozen E5 (List.mem_cons_of_mem _ List.mem_cons_self)
              go_simp
              clear qc qz
              have E6 := Env.poke (v' := .int .i64 (less2_1 c k i).vars) (l' := _ :: l) E5 (List.mem_cons_of_mem _ List.mem_cons_self) f1 (fun p hp => by rcases List.mem_cons.1 hp with rfl | hp; exact ⟨List.mem_cons_self, by show b2 ≠ b1; omega⟩; exact ⟨List.mem_cons_of_mem _ (List.mem_cons_of_mem _ hp), Nat.ne_of_lt (g1 p hp)⟩)
              obtain ⟨v6, hv6⟩ : ∃ V, V = World.setCell v5 ⟨b1, 0, none⟩ (.int .i64 (less2_1 c k i).vars) := ⟨_, rfl⟩
              rw [← hv6] at E6 ⊢
              clear hv6
              refine hK.out _ _ (E6.cell (List.mem_cons_of_mem _ (List.mem_cons_of_mem _ m_m))) (fun hHeld => ?_)
              clear hK K
              try simp only [Act.put, List.setIfInBounds_toArray, List.set_cons_zero, List.set_cons_succ]
              refine wpAnyH_ready (rs := [13]) (by kernel_rfl) (by simp) ?_
              refine AllReadyH.cons rfl (fun K hK => ?_) AllReadyH.nil
              have qc := Env.cell E6 (List.mem_cons_of_mem _ List.mem_cons_self)
              have qz := Env.frozen E6 (List.mem_cons_of_mem _ List.mem_cons_self)
              go_simp
              clear qc qz
              have E7 := Env.poke (v' := .int .i64 (less2_3 c k i).vars) (l' := _ :: l) E6 (List.mem_cons_of_mem _ List.mem_cons_self) f2 (fun p hp => by rcases List.mem_cons.1 hp with rfl | hp; exact ⟨List.mem_cons_self, by show b1 ≠ b2; omega⟩; exact ⟨List.mem_cons_of_mem _ (List.mem_cons_of_mem _ hp), Nat.ne_of_lt (g2 p hp)⟩)
              obtain ⟨v7, hv7⟩ : ∃ V, V = World.setCell v6 ⟨b2, 0, none⟩ (.int .i64 (less2_3 c k i).vars) := ⟨_, rfl⟩
              rw [← hv7] at E7 ⊢
              clear hv7
              refine hK.out _ _ (E7.cell (List.mem_cons_of_mem _ (List.mem_cons_of_mem _ m_m))) (fun hHeld => ?_)
              clear hK K
              try simp only [Act.put, List.setIfInBounds_toArray, List.set_cons_zero, List.set_cons_succ]
              refine wpAnyH_done (by kernel_rfl) ?_ _
              exact ⟨b1, b2, rfl, hr1, hr2, hr3, hr4, E7⟩
          · have f2 := Env.base E2
            have g2 : ∀ p ∈ l, p.1 < _ := fun p hp => Env.lt E2 (List.mem_cons_of_mem _ hp)
            have gne := Env.lt E2 List.mem_cons_self
            have E3 := Env.box E2 (.int .i64 0) 3
            go_simp
            try simp only [World.size_drew] at f2 g2 E3 gne
            obtain ⟨v3, hv3⟩ : ∃ V, V = World.alloc v2 (.cells #[.int .i64 0] 3) := ⟨_, rfl⟩
            rw [← hv3] at E3 ⊢
            clear hv3
            generalize v2.heap.size = b2 at f2 g2 E3 gne ⊢
            refine hK.out _ _ (E3.cell (List.mem_cons_of_mem _ (List.mem_cons_of_mem _ m_m))) (fun hHeld => ?_)
            clear hK K
            try simp only [Act.put, List.setIfInBounds_toArray, List.set_cons_zero, List.set_cons_succ]
            refine wpAnyH_ready (rs := [8]) (by kernel_rfl) (by simp) ?_
            refine AllReadyH.cons rfl (fun K hK => ?_) AllReadyH.nil
            go_simp
            refine (math_any ⟨#[43]⟩ 2 i hz_2 h_i (by decide) E3).mono ?_
            rintro e v4 ⟨rfl, E4_⟩
            have E4 : Env B w0 bm _ (n + 11) (less2_3 c k i) k v4 := E4_
            clear E4_
            try go_wp2_with fail
            refine hK.out _ _ (E4.cell (List.mem_cons_of_mem _ (List.mem_cons_of_mem _ m_m))) (fun hHeld => ?_)
            clear hK K
            try simp only [Act.put, List.setIfInBounds_toArray, List.set_cons_zero, List.set_cons_succ]
            have hr3 := InI.vars E3
            refine wpAnyH_ready (rs := [9]) (by kernel_rfl) (by simp) ?_
            refine AllReadyH.cons rfl (fun K hK => ?_) AllReadyH.nil
            go_simp
            refine (load_any (less2_2 c k i).vars 0 hr3 hz_0 E4).mono ?_
            rintro e v5 ⟨rfl, E5_⟩
            have E5 : Env B w0 bm _ (n + 9) (less2_4 c k i) k v5 := E5_
            clear E5_
            try go_wp2_with fail
            refine hK.out _ _ (E5.cell (List.mem_cons_of_mem _ (List.mem_cons_of_mem _ m_m))) (fun hHeld => ?_)
            clear hK K
            try simp only [Act.put, List.setIfInBounds_toArray, List.set_cons_zero, List.set_cons_succ]
            have hr4 := InI.vars E4
            refine wpAnyH_ready (rs := [12]) (by kernel_rfl) (by simp) ?_
            refine AllReadyH.cons rfl (fun K hK => ?_) AllReadyH.nil
            have qc := Env.cell E5 (List.mem_cons_of_mem _ List.mem_cons_self)
            have qz := Env.frozen E5 (List.mem_cons_of_mem _ List.mem_cons_self)
            go_simp
            clear qc qz
            have E6 := Env.poke (v' := .int .i64 (less2_1 c k i).vars) (l' := _ :: l) E5 (List.mem_cons_of_mem _ List.mem_cons_self) f1 (fun p hp => by rcases List.mem_cons.1 hp with rfl | hp; exact ⟨List.mem_cons_self, by show b2 ≠ b1; omega⟩; exact ⟨List.mem_cons_of_mem _ (List.mem_cons_of_mem _ hp), Nat.ne_of_lt (g1 p hp)⟩)
            obtain ⟨v6, hv6⟩ : ∃ V, V = World.setCell v5 ⟨b1, 0, none⟩ (.int .i64 (less2_1 c k i).vars) := ⟨_, rfl⟩
            rw [← hv6] at E6 ⊢
            clear hv6
            refine hK.out _ _ (E6.cell (List.mem_cons_of_mem _ (List.mem_cons_of_mem _ m_m))) (fun hHeld => ?_)
            clear hK K
            try simp only [Act.put, List.setIfInBounds_toArray, List.set_cons_zero, List.set_cons_succ]
            refine wpAnyH_ready (rs := [13]) (by kernel_rfl) (by simp) ?_
            refine AllReadyH.cons rfl (fun K hK => ?_) AllReadyH.nil
            have qc := Env.cell E6 (List.mem_cons_of_mem _ List.mem_cons_self)
            have qz := Env.frozen E6 (List.mem_cons_of_mem _ List.mem_cons_self)
            go_simp
            clear qc qz
            have E7 := Env.poke (v' := .int .i64 (less2_3 c k i).vars) (l' := _ :: l) E6 (List.mem_cons_of_mem _ List.mem_cons_self) f2 (fun p hp => by rcases List.mem_cons.1 hp with rfl | hp; exact ⟨List.mem_cons_self, by show b1 ≠ b2; omega⟩; exact ⟨List.mem_cons_of_mem _ (List.mem_cons_of_mem _ hp), Nat.ne_of_lt (g2 p hp)⟩)
            obtain ⟨v7, hv7⟩ : ∃ V, V = World.setCell v6 ⟨b2, 0, none⟩ (.int .i64 (less2_3 c k i).vars) := ⟨_, rfl⟩
            rw [← hv7] at E7 ⊢
            clear hv7
            refine hK.out _ _ (E7.cell (List.mem_cons_of_mem _ (List.mem_cons_of_mem _ m_m))) (fun hHeld => ?_)
            clear hK K
            try simp only [Act.put, List.setIfInBounds_toArray, List.set_cons_zero, List.set_cons_succ]
            refine wpAnyH_done (by kernel_rfl) ?_ _
            exact ⟨b1, b2, rfl, hr1, hr2, hr3, hr4, E7⟩
        · have f2 := Env.base E1
          have g2 : ∀ p ∈ l, p.1 < _ := fun p hp => Env.lt E1 (List.mem_cons_of_mem _ hp)
          have gne := Env.lt E1 List.mem_cons_self
          have E2 := Env.box E1 (.int .i64 0) 3
          go_simp
          try simp only [World.size_drew] at f2 g2 E2 gne
          obtain ⟨v2, hv2⟩ : ∃ V, V = World.alloc v1 (.cells #[.int .i64 0] 3) := ⟨_, rfl⟩
          rw [← hv2] at E2 ⊢
          clear hv2
          generalize v1.heap.size = b2 at f2 g2 E2 gne ⊢
          refine hK.out _ _ (E2.cell (List.mem_cons_of_mem _ (List.mem_cons_of_mem _ m_m))) (fun hHeld => ?_)
          clear hK K
          try simp only [Act.put, List.setIfInBounds_toArray, List.set_cons_zero, List.set_cons_succ]
          refine wpAnyH_ready (rs := [4]) (by kernel_rfl) (by simp) ?_
          refine AllReadyH.cons rfl (fun K hK => ?_) AllReadyH.nil
          go_simp
          refine (load_any c.vars 0 hr1 hz_0 E2).mono ?_
          rintro e v3 ⟨rfl, E3_⟩
          have E3 : Env B w0 bm _ (n + 13) (less2_2 c k i) k v3 := E3_
          clear E3_
          try go_wp2_with fail
          refine hK.out _ _ (E3.cell (List.mem_cons_of_mem _ (List.mem_cons_of_mem _ m_m))) (fun hHeld => ?_)
          clear hK K
          try simp only [Act.put, List.setIfInBounds_toArray, List.set_cons_zero, List.set_cons_succ]
          have hr2 := InI.vars E2
          refine wpAnyH_ready (rs := [8]) (by kernel_rfl) (by simp) ?_
          refine AllReadyH.cons rfl (fun K hK => ?_) AllReadyH.nil
          go_simp
          refine (math_any ⟨#[43]⟩ 2 i hz_2 h_i (by decide) E3).mono ?_
          rintro e v4 ⟨rfl, E4_⟩
          have E4 : Env B w0 bm _ (n + 11) (less2_3 c k i) k v4 := E4_
          clear E4_
          try go_wp2_with fail
          refine hK.out _ _ (E4.cell (List.mem_cons_of_mem _ (List.mem_cons_of_mem _ m_m))) (fun hHeld => ?_)
          clear hK K
          try simp only [Act.put, List.setIfInBounds_toArray, List.set_cons_zero, List.set_cons_succ]
          have hr3 := InI.vars E3
          refine wpAnyH_ready (rs := [9]) (by kernel_rfl) (by simp) ?_
          refine AllReadyH.cons rfl (fun K hK => ?_) AllReadyH.nil
          go_simp
          refine (load_any (less2_2 c k i).vars 0 hr3 hz_0 E4).mono ?_
          rintro e v5 ⟨rfl, E5_⟩
          have E5 : Env B w0 bm _ (n + 9) (less2_4 c k i) k v5 := E5_
          clear E5_
          try go_wp2_with fail
          refine hK.out _ _ (E5.cell (List.mem_cons_of_mem _ (List.mem_cons_of_mem _ m_m))) (fun hHeld => ?_)
          clear hK K
          try simp only [Act.put, List.setIfInBounds_toArray, List.set_cons_zero, List.set_cons_succ]
          have hr4 := InI.vars E4
          refine wpAnyH_ready (rs := [12]) (by kernel_rfl) (by simp) ?_
          refine AllReadyH.cons rfl (fun K hK => ?_) AllReadyH.nil
          have qc := Env.cell E5 (List.mem_cons_of_mem _ List.mem_cons_self)
          have qz := Env.frozen E5 (List.mem_cons_of_mem _ List.mem_cons_self)
          go_simp
          clear qc qz
          have E6 := Env.poke (v' := .int .i64 (less2_1 c k i).vars) (l' := _ :: l) E5 (List.mem_cons_of_mem _ List.mem_cons_self) f1 (fun p hp => by rcases List.mem_cons.1 hp with rfl | hp; exact ⟨List.mem_cons_self, by show b2 ≠ b1; omega⟩; exact ⟨List.mem_cons_of_mem _ (List.mem_cons_of_mem _ hp), Nat.ne_of_lt (g1 p hp)⟩)
          obtain ⟨v6, hv6⟩ : ∃ V, V = World.setCell v5 ⟨b1, 0, none⟩ (.int .i64 (less2_1 c k i).vars) := ⟨_, rfl⟩
          rw [← hv6] at E6 ⊢
          clear hv6
          refine hK.out _ _ (E6.cell (List.mem_cons_of_mem _ (List.mem_cons_of_mem _ m_m))) (fun hHeld => ?_)
          clear hK K
          try simp only [Act.put, List.setIfInBounds_toArray, List.set_cons_zero, List.set_cons_succ]
          refine wpAnyH_ready (rs := [13]) (by kernel_rfl) (by simp) ?_
          refine AllReadyH.cons rfl (fun K hK => ?_) AllReadyH.nil
          have qc := Env.cell E6 (List.mem_cons_of_mem _ List.mem_cons_self)
          have qz := Env.frozen E6 (List.mem_cons_of_mem _ List.mem_cons_self)
          go_simp
          clear qc qz
          have E7 := Env.poke (v' := .int .i64 (less2_3 c k i).vars) (l' := _ :: l) E6 (List.mem_cons_of_mem _ List.mem_cons_self) f2 (fun p hp => by rcases List.mem_cons.1 hp with rfl | hp; exact ⟨List.mem_cons_self, by show b1 ≠ b2; omega⟩; exact ⟨List.mem_cons_of_mem _ (List.mem_cons_of_mem _ hp), Nat.ne_of_lt (g2 p hp)⟩)
          obtain ⟨v7, hv7⟩ : ∃ V, V = World.setCell v6 ⟨b2, 0, none⟩ (.int .i64 (less2_3 c k i).vars) := ⟨_, rfl⟩
          rw [← hv7] at E7 ⊢
          clear hv7
          refine hK.out _ _ (E7.cell (List.mem_cons_of_mem _ (List.mem_cons_of_mem _ m_m))) (fun hHeld => ?_)
          clear hK K
          try simp only [Act.put, List.setIfInBounds_toArray, List.set_cons_zero, List.set_cons_succ]
          refine wpAnyH_done (by kernel_rfl) ?_ _
          exact ⟨b1, b2, rfl, hr1, hr2, hr3, hr4, E7⟩
      · have f2 := Env.base E0
        have g2 : ∀ p ∈ l, p.1 < _ := fun p hp => Env.lt E0 hp
        have E1 := Env.box E0 (.int .i64 0) 3
        go_simp
        try simp only [World.size_drew] at f2 g2 E1
        obtain ⟨v1, hv1⟩ : ∃ V, V = World.alloc v0 (.cells #[.int .i64 0] 3) := ⟨_, rfl⟩
        rw [← hv1] at E1 ⊢
        clear hv1
        generalize v0.heap.size = b2 at f2 g2 E1 ⊢
        refine hK.out _ _ (E1.cell (List.mem_cons_of_mem _ m_m)) (fun hHeld => ?_)
        clear hK K
        try simp only [Act.put, List.setIfInBounds_toArray, List.set_cons_zero, List.set_cons_succ]
        refine wpAnyH_ready (rs := [4, 10]) (by kernel_rfl) (by simp) ?_
        refine AllReadyH.cons rfl (fun K hK => ?_) (AllReadyH.cons rfl (fun K hK => ?_) AllReadyH.nil)
        · go_simp
          refine (load_any c.vars 0 hr1 hz_0 E1).mono ?_
          rintro e v2 ⟨rfl, E2_⟩
          have E2 : Env B w0 bm _ (n + 13) (less2_2 c k i) k v2 := E2_
          clear E2_
          try go_wp2_with fail
          refine hK.out _ _ (E2.cell (List.mem_cons_of_mem _ m_m)) (fun hHeld => ?_)
          clear hK K
          try simp only [Act.put, List.setIfInBounds_toArray, List.set_cons_zero, List.set_cons_succ]
          have hr2 := InI.vars E1
          refine wpAnyH_ready (rs := [8, 10]) (by kernel_rfl) (by simp) ?_
          refine AllReadyH.cons rfl (fun K hK => ?_) (AllReadyH.cons rfl (fun K hK => ?_) AllReadyH.nil)
          · go_simp
            refine (math_any ⟨#[43]⟩ 2 i hz_2 h_i (by decide) E2).mono ?_
            rintro e v3 ⟨rfl, E3_⟩
            have E3 : Env B w0 bm _ (n + 11) (less2_3 c k i) k v3 := E3_
            clear E3_
            try go_wp2_with fail
            refine hK.out _ _ (E3.cell (List.mem_cons_of_mem _ m_m)) (fun hHeld => ?_)
            clear hK K
            try simp only [Act.put, List.setIfInBounds_toArray, List.set_cons_zero, List.set_cons_succ]
            have hr3 := InI.vars E2
            refine wpAnyH_ready (rs := [9, 10]) (by kernel_rfl) (by simp) ?_
            refine AllReadyH.cons rfl (fun K hK => ?_) (AllReadyH.cons rfl (fun K hK => ?_) AllReadyH.nil)
            · go_simp
              refine (load_any (less2_2 c k i).vars 0 hr3 hz_0 E3).mono ?_
              rintro e v4 ⟨rfl, E4_⟩
              have E4 : Env B w0 bm _ (n + 9) (less2_4 c k i) k v4 := E4_
              clear E4_
              try go_wp2_with fail
              refine hK.out _ _ (E4.cell (List.mem_cons_of_mem _ m_m)) (fun hHeld => ?_)
              clear hK K
              try simp only [Act.put, List.setIfInBounds_toArray, List.set_cons_zero, List.set_cons_succ]
              have hr4 := InI.vars E3
              refine wpAnyH_ready (rs := [10]) (by kernel_rfl) (by simp) ?_
              refine AllReadyH.cons rfl (fun K hK => ?_) AllReadyH.nil
              have f1 := Env.base E4
              have g1 : ∀ p ∈ l, p.1 < _ := fun p hp => Env.lt E4 (List.mem_cons_of_mem _ hp)
              have gne := Env.lt E4 List.mem_cons_self
              have E5 := Env.box E4 (.int .i64 0) 3
              go_simp
              try simp only [World.size_drew] at f1 g1 E5 gne
              obtain ⟨v5, hv5⟩ : ∃ V, V = World.alloc v4 (.cells #[.int .i64 0] 3) := ⟨_, rfl⟩
              rw [← hv5] at E5 ⊢
              clear hv5
              generalize v4.heap.size = b1 at f1 g1 E5 gne ⊢
              refine hK.out _ _ (E5.cell (List.mem_cons_of_mem _ (List.mem_cons_of_mem _ m_m))) (fun hHeld => ?_)
              clear hK K
              try simp only [Act.put, List.setIfInBounds_toArray, List.set_cons_zero, List.set_cons_succ]
              refine wpAnyH_ready (rs := [12]) (by kernel_rfl) (by simp) ?_
              refine AllReadyH.cons rfl (fun K hK => ?_) AllReadyH.nil
              have qc := Env.cell E5 List.mem_cons_self
              have qz := Env.frozen E5 List.mem_cons_self
              go_simp
              clear qc qz
              have E6 := Env.poke (v' := .int .i64 (less2_1 c k i).vars) (l' := _ :: l) E5 List.mem_cons_self f1 (fun p hp => by rcases List.mem_cons.1 hp with rfl | hp; exact ⟨(List.mem_cons_of_mem _ List.mem_cons_self), by show b2 ≠ b1; omega⟩; exact ⟨List.mem_cons_of_mem _ (List.mem_cons_of_mem _ hp), Nat.ne_of_lt (g1 p hp)⟩)
              obtain ⟨v6, hv6⟩ : ∃ V, V = World.setCell v5 ⟨b1, 0, none⟩ (.int .i64 (less2_1 c k i).vars) := ⟨_, rfl⟩
              rw [← hv6] at E6 ⊢
              clear hv6
              refine hK.out _ _ (E6.cell (List.mem_cons_of_mem _ (List.mem_cons_of_mem _ m_m))) (fun hHeld => ?_)
              clear hK K
              try simp only [Act.put, List.setIfInBounds_toArray, List.set_cons_zero, List.set_cons_succ]
              refine wpAnyH_ready (rs := [13]) (by kernel_rfl) (by simp) ?_
              refine AllReadyH.cons rfl (fun K hK => ?_) AllReadyH.nil
              have qc := Env.cell E6 (List.mem_cons_of_mem _ List.mem_cons_self)
              have qz := Env.frozen E6 (List.mem_cons_of_mem _ List.mem_cons_self)
              go_simp
              clear qc qz
              have E7 := Env.poke (v' := .int .i64 (less2_3 c k i).vars) (l' := _ :: l) E6 (List.mem_cons_of_mem _ List.mem_cons_self) f2 (fun p hp => by rcases List.mem_cons.1 hp with rfl | hp; exact ⟨List.mem_cons_self, by show b1 ≠ b2; omega⟩; exact ⟨List.mem_cons_of_mem _ (List.mem_cons_of_mem _ hp), Nat.ne_of_lt (g2 p hp)⟩)
              obtain ⟨v7, hv7⟩ : ∃ V, V = World.setCell v6 ⟨b2, 0, none⟩ (.int .i64 (less2_3 c k i).vars) := ⟨_, rfl⟩
              rw [← hv7] at E7 ⊢
              clear hv7
              refine hK.out _ _ (E7.cell (List.mem_cons_of_mem _ (List.mem_cons_of_mem _ m_m))) (fun hHeld => ?_)
              clear hK K
              try simp only [Act.put, List.setIfInBounds_toArray, List.set_cons_zero, List.set_cons_succ]
              refine wpAnyH_done (by kernel_rfl) ?_ _
              exact ⟨b1, b2, rfl, hr1, hr2, hr3, hr4, E7⟩
            · have f1 := Env.base E3
              have g1 : ∀ p ∈ l, p.1 < _ := fun p hp => Env.lt E3 (List.mem_cons_of_mem _ hp)
              have gne := Env.lt E3 List.mem_cons_self
              have E4 := Env.box E3 (.int .i64 0) 3
              go_simp
              try simp only [World.size_drew] at f1 g1 E4 gne
              obtain ⟨v4, hv4⟩ : ∃ V, V = World.alloc v3 (.cells #[.int .i64 0] 3) := ⟨_, rfl⟩
              rw [← hv4] at E4 ⊢
              clear hv4
              generalize v3.heap.size = b1 at f1 g1 E4 gne ⊢
              refine hK.out _ _ (E4.cell (List.mem_cons_of_mem _ (List.mem_cons_of_mem _ m_m))) (fun hHeld => ?_)
              clear hK K
              try simp only [Act.put, List.setIfInBounds_toArray, List.set_cons_zero, List.set_cons_succ]
              refine wpAnyH_ready (rs := [9]) (by kernel_rfl) (by simp) ?_
              refine AllReadyH.cons rfl (fun K hK => ?_) AllReadyH.nil
              go_simp
              refine (load_any (less2_2 c k i).vars 0 hr3 hz_0 E4).mono ?_
              rintro e v5 ⟨rfl, E5_⟩
              have E5 : Env B w0 bm _ (n + 9) (less2_4 c k i) k v5 := E5_
              clear E5_
              try go_wp2_with fail
              refine hK.out _ _ (E5.cell (List.mem_cons_of_mem _ (List.mem_cons_of_mem _ m_m))) (fun hHeld => ?_)
              clear hK K
              try simp only [Act.put, List.setIfInBounds_toArray, List.set_cons_zero, List.set_cons_succ]
              have hr4 := InI.vars E4
              refine wpAnyH_ready (rs := [12]) (by kernel_rfl) (by simp) ?_
              refine AllReadyH.cons rfl (fun K hK => ?_) AllReadyH.nil
              have qc := Env.cell E5 List.mem_cons_self
              have qz := Env.frozen E5 List.mem_cons_self
              go_simp
              clear qc qz
              have E6 := Env.poke (v' := .int .i64 (less2_1 c k i).vars) (l' := _ :: l) E5 List.mem_cons_self f1 (fun p hp => by rcases List.mem_cons.1 hp with rfl | hp; exact ⟨(List.mem_cons_of_mem _ List.mem_cons_self), by show b2 ≠ b1; omega⟩; exact ⟨List.mem_cons_of_mem _ (List.mem_cons_of_mem _ hp), Nat.ne_of_lt (g1 p hp)⟩)
              obtain ⟨v6, hv6⟩ : ∃ V, V = World.setCell v5 ⟨b1, 0, none⟩ (.int .i64 (less2_1 c k i).vars) := ⟨_, rfl⟩
              rw [← hv6] at E6 ⊢
              clear hv6
              refine hK.out _ _ (E6.cell (List.mem_cons_of_mem _ (List.mem_cons_of_mem _ m_m))) (fun hHeld => ?_)
              clear hK K
              try simp only [Act.put, List.setIfInBounds_toArray, List.set_cons_zero, List.set_cons_succ]
              refine wpAnyH_ready (rs := [13]) (by kernel_rfl) (by simp) ?_
              refine AllReadyH.cons rfl (fun K hK => ?_) AllReadyH.nil
              have qc := Env.cell E6 (List.mem_cons_of_mem _ List.mem_cons_self)
              have qz := Env.frozen E6 (List.mem_cons_of_mem _ List.mem_cons_self)
              go_simp
              clear qc qz
              have E7 := Env.poke (v' := .int .i64 (less2_3 c k i).vars) (l' := _ :: l) E6 (List.mem_cons_of_mem _ List.mem_cons_self) f2 (fun p hp => by rcases List.mem_cons.1 hp with rfl | hp; exact ⟨List.mem_cons_self, by show b1 ≠ b2; omega⟩; exact ⟨List.mem_cons_of_mem _ (List.mem_cons_of_mem _ hp), Nat.ne_of_lt (g2 p hp)⟩)
              obtain ⟨v7, hv7⟩ : ∃ V, V = World.setCell v6 ⟨b2, 0, none⟩ (.int .i64 (less2_3 c k i).vars) := ⟨_, rfl⟩
              rw [← hv7] at E7 ⊢
              clear hv7
              refine hK.out _ _ (E7.cell (List.mem_cons_of_mem _ (List.mem_cons_of_mem _ m_m))) (fun hHeld => ?_)
              clear hK K
              try simp only [Act.put, List.setIfInBounds_toArray, List.set_cons_zero, List.set_cons_succ]
              refine wpAnyH_done (by kernel_rfl) ?_ _
              exact ⟨b1, b2, rfl, hr1, hr2, hr3, hr4, E7⟩
          · have f1 := Env.base E2
            have g1 : ∀ p ∈ l, p.1 < _ := fun p hp => Env.lt E2 (List.mem_cons_of_mem _ hp)
            have gne := Env.lt E2 List.mem_cons_self
            have E3 := Env.box E2 (.int .i64 0) 3
            go_simp
            try simp only [World.size_drew] at f1 g1 E3 gne
            obtain ⟨v3, hv3⟩ : ∃ V, V = World.alloc v2 (.cells #[.int .i64 0] 3) := ⟨_, rfl⟩
            rw [← hv3] at E3 ⊢
            clear hv3
            generalize v2.heap.size = b1 at f1 g1 E3 gne ⊢
            refine hK.out _ _ (E3.cell (List.mem_cons_of_mem _ (List.mem_cons_of_mem _ m_m))) (fun hHeld => ?_)
            clear hK K
            try simp only [Act.put, List.setIfInBounds_toArray, List.set_cons_zero, List.set_cons_succ]
            refine wpAnyH_ready (rs := [8]) (by kernel_rfl) (by simp) ?_
            refine AllReadyH.cons rfl (fun K hK => ?_) AllReadyH.nil
            go_simp
            refine (math_any ⟨#[43]⟩ 2 i hz_2 h_i (by decide) E3).mono ?_
            rintro e v4 ⟨rfl, E4_⟩
            have E4 : Env B w0 bm _ (n + 11) (less2_3 c k i) k v4 := E4_
            clear E4_
            try go_wp2_with fail
            refine hK.out _ _ (E4.cell (List.mem_cons_of_mem _ (List.mem_cons_of_mem _ m_m))) (fun hHeld => ?_)
            clear hK K
            try simp only [Act.put, List.setIfInBounds_toArray, List.set_cons_zero, List.set_cons_succ]
            have hr3 := InI.vars E3
            refine wpAnyH_ready (rs := [9]) (by kernel_rfl) (by simp) ?_
            refine AllReadyH.cons rfl (fun K hK => ?_) AllReadyH.nil
            go_simp
            refine (load_any (less2_2 c k i).vars 0 hr3 hz_0 E4).mono ?_
            rintro e v5 ⟨rfl, E5_⟩
            have E5 : Env B w0 bm _ (n + 9) (less2_4 c k i) k v5 := E5_
            clear E5_
            try go_wp2_with fail
            refine hK.out _ _ (E5.cell (List.mem_cons_of_mem _ (List.mem_cons_of_mem _ m_m))) (fun hHeld => ?_)
            clear hK K
            try simp only [Act.put, List.setIfInBounds_toArray, List.set_cons_zero, List.set_cons_succ]
            have hr4 := InI.vars E4
            refine wpAnyH_ready (rs := [12]) (by kernel_rfl) (by simp) ?_
            refine AllReadyH.cons rfl (fun K hK => ?_) AllReadyH.nil
            have qc := Env.cell E5 List.mem_cons_self
            have qz := Env.frozen E5 List.mem_cons_self
            go_simp
            clear qc qz
            have E6 := Env.poke (v' := .int .i64 (less2_1 c k i).vars) (l' := _ :: l) E5 List.mem_cons_self f1 (fun p hp => by rcases List.mem_cons.1 hp with rfl | hp; exact ⟨(List.mem_cons_of_mem _ List.mem_cons_self), by show b2 ≠ b1; omega⟩; exact ⟨List.mem_cons_of_mem _ (List.mem_cons_of_mem _ hp), Nat.ne_of_lt (g1 p hp)⟩)
            obtain ⟨v6, hv6⟩ : ∃ V, V = World.setCell v5 ⟨b1, 0, none⟩ (.int .i64 (less2_1 c k i).vars) := ⟨_, rfl⟩
            rw [← hv6] at E6 ⊢
            clear hv6
            refine hK.out _ _ (E6.cell (List.mem_cons_of_mem _ (List.mem_cons_of_mem _ m_m))) (fun hHeld => ?_)
            clear hK K
            try simp only [Act.put, List.setIfInBounds_toArray, List.set_cons_zero, List.set_cons_succ]
            refine wpAnyH_ready (rs := [13]) (by kernel_rfl) (by simp) ?_
            refine AllReadyH.cons rfl (fun K hK => ?_) AllReadyH.nil
            have qc := Env.cell E6 (List.mem_cons_of_mem _ List.mem_cons_self)
            have qz := Env.frozen E6 (List.mem_cons_of_mem _ List.mem_cons_self)
            go_simp
            clear qc qz
            have E7 := Env.poke (v' := .int .i64 (less2_3 c k i).vars) (l' := _ :: l) E6 (List.mem_cons_of_mem _ List.mem_cons_self) f2 (fun p hp => by rcases List.mem_cons.1 hp with rfl | hp; exact ⟨List.mem_cons_self, by show b1 ≠ b2; omega⟩; exact ⟨List.mem_cons_of_mem _ (List.mem_cons_of_mem _ hp), Nat.ne_of_lt (g2 p hp)⟩)
            obtain ⟨v7, hv7⟩ : ∃ V, V = World.setCell v6 ⟨b2, 0, none⟩ (.int .i64 (less2_3 c k i).vars) := ⟨_, rfl⟩
            rw [← hv7] at E7 ⊢
            clear hv7
            refine hK.out _ _ (E7.cell (List.mem_cons_of_mem _ (List.mem_cons_of_mem _ m_m))) (fun hHeld => ?_)
            clear hK K
            try simp only [Act.put, List.setIfInBounds_toArray, List.set_cons_zero, List.set_cons_succ]
            refine wpAnyH_done (by kernel_rfl) ?_ _
            exact ⟨b1, b2, rfl, hr1, hr2, hr3, hr4, E7⟩
        · have f1 := Env.base E1
          have g1 : ∀ p ∈ l, p.1 < _ := fun p hp => Env.lt E1 (List.mem_cons_of_mem _ hp)
          have gne := Env.lt E1 List.mem_cons_self
          have E2 := Env.box E1 (.int .i64 0) 3
          go_simp
          try simp only [World.size_drew] at f1 g1 E2 gne
          obtain ⟨v2, hv2⟩ : ∃ V, V = World.alloc v1 (.cells #[.int .i64 0] 3) := ⟨_, rfl⟩
          rw [← hv2] at E2 ⊢
          clear hv2
          generalize v1.heap.size = b1 at f1 g1 E2 gne ⊢
          refine hK.out _ _ (E2.cell (List.mem_cons_of_mem _ (List.mem_cons_of_mem _ m_m))) (fun hHeld => ?_)
          clear hK K
          try simp only [Act.put, List.setIfInBounds_toArray, List.set_cons_zero, List.set_cons_succ]
          refine wpAnyH_ready (rs := [4]) (by kernel_rfl) (by simp) ?_
          refine AllReadyH.cons rfl (fun K hK => ?_) AllReadyH.nil
          go_simp
          refine (load_any c.vars 0 hr1 hz_0 E2).mono ?_
          rintro e v3 ⟨rfl, E3_⟩
          have E3 : Env B w0 bm _ (n + 13) (less2_2 c k i) k v3 := E3_
          clear E3_
          try go_wp2_with fail
          refine hK.out _ _ (E3.cell (List.mem_cons_of_mem _ (List.mem_cons_of_mem _ m_m))) (fun hHeld => ?_)
          clear hK K
          try simp only [Act.put, List.setIfInBounds_toArray, List.set_cons_zero, List.set_cons_succ]
          have hr2 := InI.vars E2
          refine wpAnyH_ready (rs := [8]) (by kernel_rfl) (by simp) ?_
          refine AllReadyH.cons rfl (fun K hK => ?_) AllReadyH.nil
          go_simp
          refine (math_any ⟨#[43]⟩ 2 i hz_2 h_i (by decide) E3).mono ?_
          rintro e v4 ⟨rfl, E4_⟩
          have E4 : Env B w0 bm _ (n + 11) (less2_3 c k i) k v4 := E4_
          clear E4_
          try go_wp2_with fail
          refine hK.out _ _ (E4.cell (List.mem_cons_of_mem _ (List.mem_cons_of_mem _ m_m))) (fun hHeld => ?_)
          clear hK K
          try simp only [Act.put, List.setIfInBounds_toArray, List.set_cons_zero, List.set_cons_succ]
          have hr3 := InI.vars E3
          refine wpAnyH_ready (rs := [9]) (by kernel_rfl) (by simp) ?_
          refine AllReadyH.cons rfl (fun K hK => ?_) AllReadyH.nil
          go_simp
          refine (load_any (less2_2 c k i).vars 0 hr3 hz_0 E4).mono ?_
          rintro e v5 ⟨rfl, E5_⟩
          have E5 : Env B w0 bm _ (n + 9) (less2_4 c k i) k v5 := E5_
          clear E5_
          try go_wp2_with fail
          refine hK.out _ _ (E5.cell (List.mem_cons_of_mem _ (List.mem_cons_of_mem _ m_m))) (fun hHeld => ?_)
          clear hK K
          try simp only [Act.put, List.setIfInBounds_toArray, List.set_cons_zero, List.set_cons_succ]
          have hr4 := InI.vars E4
          refine wpAnyH_ready (rs := [12]) (by kernel_rfl) (by simp) ?_
          refine AllReadyH.cons rfl (fun K hK => ?_) AllReadyH.nil
          have qc := Env.cell E5 List.mem_cons_self
          have qz := Env.frozen E5 List.mem_cons_self
          go_simp
          clear qc qz
          have E6 := Env.poke (v' := .int .i64 (less2_1 c k i).vars) (l' := _ :: l) E5 List.mem_cons_self f1 (fun p hp => by rcases List.mem_cons.1 hp with rfl | hp; exact ⟨(List.mem_cons_of_mem _ List.mem_cons_self), by show b2 ≠ b1; omega⟩; exact ⟨List.mem_cons_of_mem _ (List.mem_cons_of_mem _ hp), Nat.ne_of_lt (g1 p hp)⟩)
          obtain ⟨v6, hv6⟩ : ∃ V, V = World.setCell v5 ⟨b1, 0, none⟩ (.int .i64 (less2_1 c k i).vars) := ⟨_, rfl⟩
          rw [← hv6] at E6 ⊢
          clear hv6
          refine hK.out _ _ (E6.cell (List.mem_cons_of_mem _ (List.mem_cons_of_mem _ m_m))) (fun hHeld => ?_)
          clear hK K
          try simp only [Act.put, List.setIfInBounds_toArray, List.set_cons_zero, List.set_cons_succ]
          refine wpAnyH_ready (rs := [13]) (by kernel_rfl) (by simp) ?_
          refine AllReadyH.cons rfl (fun K hK => ?_) AllReadyH.nil
          have qc := Env.cell E6 (List.mem_cons_of_mem _ List.mem_cons_self)
          have qz := Env.frozen E6 (List.mem_cons_of_mem _ List.mem_cons_self)
          go_simp
          clear qc qz
          have E7 := Env.poke (v' := .int .i64 (less2_3 c k i).vars) (l' := _ :: l) E6 (List.mem_cons_of_mem _ List.mem_cons_self) f2 (fun p hp => by rcases List.mem_cons.1 hp with rfl | hp; exact ⟨List.mem_cons_self, by show b1 ≠ b2; omega⟩; exact ⟨List.mem_cons_of_mem _ (List.mem_cons_of_mem _ hp), Nat.ne_of_lt (g2 p hp)⟩)
          obtain ⟨v7, hv7⟩ : ∃ V, V = World.setCell v6 ⟨b2, 0, none⟩ (.int .i64 (less2_3 c k i).vars) := ⟨_, rfl⟩
          rw [← hv7] at E7 ⊢
          clear hv7
          refine hK.out _ _ (E7.cell (List.mem_cons_of_mem _ (List.mem_cons_of_mem _ m_m))) (fun hHeld => ?_)
          clear hK K
          try simp only [Act.put, List.setIfInBounds_toArray, List.set_cons_zero, List.set_cons_succ]
          refine wpAnyH_done (by kernel_rfl) ?_ _
          exact ⟨b1, b2, rfl, hr1, hr2, hr3, hr4, E7⟩
    · have f1 := Env.base hd0
      have g1 : ∀ p ∈ l, p.1 < _ := fun p hp => Env.lt hd0 hp
      have E0 : Env _ _ _ ((w.heap.size, 0, .int .i64 0) :: _) _ _ _ ((World.alloc w (.cells #[.int .i64 0] 3)).drew) := Env.box hd0 (.int .i64 0) 3
      go_simp
      try simp only [World.size_drew] at f1 g1 E0
      obtain ⟨v0, hv0⟩ : ∃ V, V = (World.alloc w (.cells #[.int .i64 0] 3)).drew := ⟨_, rfl⟩
      rw [← hv0] at E0 ⊢
      clear hv0
      generalize w.heap.size = b1 at f1 g1 E0 ⊢
      refine hK.out _ _ (E0.cell (List.mem_cons_of_mem _ m_m)) (fun hHeld => ?_)
      clear hK K
      try simp only [Act.put, List.setIfInBounds_toArray, List.set_cons_zero, List.set_cons_succ]
      refine wpAnyH_ready (rs := [3, 11]) (by kernel_rfl) (by simp) ?_
      refine AllReadyH.cons rfl (fun K hK => ?_) (AllReadyH.cons rfl (fun K hK => ?_) AllReadyH.nil)
      · go_simp
        refine (math_any ⟨#[43]⟩ 0 i hz_0 h_i (by decide) E0).mono ?_
        rintro e v1 ⟨rfl, E1_⟩
        have E1 : Env B w0 bm _ (n + 15) (less2_1 c k i) k v1 := E1_
        clear E1_
        try go_wp2_with fail
        refine hK.out _ _ (E1.cell (List.mem_cons_of_mem _ m_m)) (fun hHeld => ?_)
        clear hK K
        try simp only [Act.put, List.setIfInBounds_toArray, List.set_cons_zero, List.set_cons_succ]
        have hr1 := InI.vars E0
        refine wpAnyH_ready (rs := [4, 11]) (by kernel_rfl) (by simp) ?_
        refine AllReadyH.cons rfl (fun K hK => ?_) (AllReadyH.cons rfl (fun K hK => ?_) AllReadyH.nil)
        · go_simp
          refine (load_any c.vars 0 hr1 hz_0 E1).mono ?_
          rintro e v2 ⟨rfl, E2_⟩
          have E2 : Env B w0 bm _ (n + 13) (less2_2 c k i) k v2 := E2_
          clear E2_
          try go_wp2_with fail
          refine hK.out _ _ (E2.cell (List.mem_cons_of_mem _ m_m)) (fun hHeld => ?_)
          clear hK K
          try simp only [Act.put, List.setIfInBounds_toArray, List.set_cons_zero, List.set_cons_succ]
          have hr2 := InI.vars E1
          refine wpAnyH_ready (rs := [8, 11]) (by kernel_rfl) (by simp) ?_
          refine AllReadyH.cons rfl (fun K hK => ?_) (AllReadyH.cons rfl (fun K hK => ?_) AllReadyH.nil)
          · go_simp
            refine (math_any ⟨#[43]⟩ 2 i hz_2 h_i (by decide) E2).mono ?_
            rintro e v3 ⟨rfl, E3_⟩
            have E3 : Env B w0 bm _ (n + 11) (less2_3 c k i) k v3 := E3_
            clear E3_
            try go_wp2_with fail
            refine hK.out _ _ (E3.cell (List.mem_cons_of_mem _ m_m)) (fun hHeld => ?_)
            clear hK K
            try simp only [Act.put, List.setIfInBounds_toArray, List.set_cons_zero, List.set_cons_succ]
            have hr3 := InI.vars E2
            refine wpAnyH_ready (rs := [9, 11]) (by kernel_rfl) (by simp) ?_
            refine AllReadyH.cons rfl (fun K hK => ?_) (AllReadyH.cons rfl (fun K hK => ?_) AllReadyH.nil)
            · go_simp
              refine (load_any (less2_2 c k i).vars 0 hr3 hz_0 E3).mono ?_
              rintro e v4 ⟨rfl, E4_⟩
              have E4 : Env B w0 bm _ (n + 9) (less2_4 c k i) k v4 := E4_
              clear E4_
              try go_wp2_with fail
              refine hK.out _ _ (E4.cell (List.mem_cons_of_mem _ m_m)) (fun hHeld => ?_)
              clear hK K
              try simp only [Act.put, List.setIfInBounds_toArray, List.set_cons_zero, List.set_cons_succ]
              have hr4 := InI.vars E3
              refine wpAnyH_ready (rs := [11]) (by kernel_rfl) (by simp) ?_
              refine AllReadyH.cons rfl (fun K hK => ?_) AllReadyH.nil
              have f2 := Env.base E4
              have g2 : ∀ p ∈ l, p.1 < _ := fun p hp => Env.lt E4 (List.mem_cons_of_mem _ hp)
              have gne := Env.lt E4 List.mem_cons_self
              have E5 := Env.box E4 (.int .i64 0) 3
              go_simp
              try simp only [World.size_drew] at f2 g2 E5 gne
              obtain ⟨v5, hv5⟩ : ∃ V, V = World.alloc v4 (.cells #[.int .i64 0] 3) := ⟨_, rfl⟩
              rw [← hv5] at E5 ⊢
              clear hv5
              generalize v4.heap.size = b2 at f2 g2 E5 gne ⊢
              refine hK.out _ _ (E5.cell (List.mem_cons_of_mem _ (List.mem_cons_of_mem _ m_m))) (fun hHeld => ?_)
              clear hK K
              try simp only [Act.put, List.setIfInBounds_toArray, List.set_cons_zero, List.set_cons_succ]
              refine wpAnyH_ready (rs := [12]) (by kernel_rfl) (by simp) ?_
              refine AllReadyH.cons rfl (fun K hK => ?_) AllReadyH.nil
              have qc := Env.cell E5 (List.mem_cons_of_mem _ List.mem_cons_self)
              have qz := Env.frozen E5 (List.mem_cons_of_mem _ List.mem_cons_self)
              go_simp
              clear qc qz
              have E6 := Env.poke (v' := .int .i64 (less2_1 c k i).vars) (l' := _ :: l) E5 (List.mem_cons_of_mem _ List.mem_cons_self) f1 (fun p hp => by rcases List.mem_cons.1 hp with rfl | hp; exact ⟨List.mem_cons_self, by show b2 ≠ b1; omega⟩; exact ⟨List.mem_cons_of_mem _ (List.mem_cons_of_mem _ hp), Nat.ne_of_lt (g1 p hp)⟩)
              obtain ⟨v6, hv6⟩ : ∃ V, V = World.setCell v5 ⟨b1, 0, none⟩ (.int .i64 (less2_1 c k i).vars) := ⟨_, rfl⟩
              rw [← hv6] at E6 ⊢
              clear hv6
              refine hK.out _ _ (E6.cell (List.mem_cons_of_mem _ (List.mem_cons_of_mem _ m_m))) (fun hHeld => ?_)
              clear hK K
              try simp only [Act.put, List.setIfInBounds_toArray, List.set_cons_zero, List.set_cons_succ]
              refine wpAnyH_ready (rs := [13]) (by kernel_rfl) (by simp) ?_
              refine AllReadyH.cons rfl (fun K hK => ?_) AllReadyH.nil
              have qc := Env.cell E6 (List.mem_cons_of_mem _ List.mem_cons_self)
              have qz := Env.frozen E6 (List.mem_cons_of_mem _ List.mem_cons_self)
              go_simp
              clear qc qz
              have E7 := Env.poke (v' := .int .i64 (less2_3 c k i).vars) (l' := _ :: l) E6 (List.mem_cons_of_mem _ List.mem_cons_self) f2 (fun p hp => by rcases List.mem_cons.1 hp with rfl | hp; exact ⟨List.mem_cons_self, by show b1 ≠ b2; omega⟩; exact ⟨List.mem_cons_of_mem _ (List.mem_cons_of_mem _ hp), Nat.ne_of_lt (g2 p hp)⟩)
              obtain ⟨v7, hv7⟩ : ∃ V, V = World.setCell v6 ⟨b2, 0, none⟩ (.int .i64 (less2_3 c k i).vars) := ⟨_, rfl⟩
              rw [← hv7] at E7 ⊢
              clear hv7
              refine hK.out _ _ (E7.cell (List.mem_cons_of_mem _ (List.mem_cons_of_mem _ m_m))) (fun hHeld => ?_)
              clear hK K
              try simp only [Act.put, List.setIfInBounds_toArray, List.set_cons_zero, List.set_cons_succ]
              refine wpAnyH_done (by kernel_rfl) ?_ _
              exact ⟨b1, b2, rfl, hr1, hr2, hr3, hr4, E7⟩
            · have f2 := Env.base E3
              have g2 : ∀ p ∈ l, p.1 < _ := fun p hp => Env.lt E3 (List.mem_cons_of_mem _ hp)
              have gne := Env.lt E3 List.mem_cons_self
              have E4 := Env.box E3 (.int .i64 0) 3
              go_simp
              try simp only [World.size_drew] at f2 g2 E4 gne
              obtain ⟨v4, hv4⟩ : ∃ V, V = World.alloc v3 (.cells #[.int .i64 0] 3) := ⟨_, rfl⟩
              rw [← hv4] at E4 ⊢
              clear hv4
              generalize v3.heap.size = b2 at f2 g2 E4 gne ⊢
              refine hK.out _ _ (E4.cell (List.mem_cons_of_mem _ (List.mem_cons_of_mem _ m_m))) (fun hHeld => ?_)
              clear hK K
              try simp only [Act.put, List.setIfInBounds_toArray, List.set_cons_zero, List.set_cons_succ]
              refine wpAnyH_ready (rs := [9]) (by kernel_rfl) (by simp) ?_
              refine AllReadyH.cons rfl (fun K hK => ?_) AllReadyH.nil
              go_simp
              refine (load_any (less2_2 c k i).vars 0 hr3 hz_0 E4).mono ?_
              rintro e v5 ⟨rfl, E5_⟩
              have E5 : Env B w0 bm _ (n + 9) (less2_4 c k i) k v5 := E5_
              clear E5_
              try go_wp2_with fail
              refine hK.out _ _ (E5.cell (List.mem_cons_of_mem _ (List.mem_cons_of_mem _ m_m))) (fun hHeld => ?_)
              clear hK K
              try simp only [Act.put, List.setIfInBounds_toArray, List.set_cons_zero, List.set_cons_succ]
              have hr4 := InI.vars E4
              refine wpAnyH_ready (rs := [12]) (by kernel_rfl) (by simp) ?_
              refine AllReadyH.cons rfl (fun K hK => ?_) AllReadyH.nil
              have qc := Env.cell E5 (List.mem_cons_of_mem _ List.mem_cons_self)
              have qz := Env.frozen E5 (List.mem_cons_of_mem _ List.mem_cons_self)
              go_simp
              clear qc qz
              have E6 := Env.poke (v' := .int .i64 (less2_1 c k i).vars) (l' := _ :: l) E5 (List.mem_cons_of_mem _ List.mem_cons_self) f1 (fun p hp => by rcases List.mem_cons.1 hp with rfl | hp; exact ⟨List.mem_cons_self, by show b2 ≠ b1; omega⟩; exact ⟨List.mem_cons_of_mem _ (List.mem_cons_of_mem _ hp), Nat.ne_of_lt (g1 p hp)⟩)
              obtain ⟨v6, hv6⟩ : ∃ V, V = World.setCell v5 ⟨b1, 0, none⟩ (.int .i64 (less2_1 c k i).vars) := ⟨_, rfl⟩
              rw [← hv6] at E6 ⊢
              clear hv6
              refine hK.out _ _ (E6.cell (List.mem_cons_of_mem _ (List.mem_cons_of_mem _ m_m))) (fun hHeld => ?_)
              clear hK K
              try simp only [Act.put, List.setIfInBounds_toArray, List.set_cons_zero, List.set_cons_succ]
              refine wpAnyH_ready (rs := [13]) (by kernel_rfl) (by simp) ?_
              refine AllReadyH.cons rfl (fun K hK => ?_) AllReadyH.nil
              have qc := Env.cell E6 (List.mem_cons_of_mem _ List.mem_cons_self)
              have qz := Env.frozen E6 (List.mem_cons_of_mem _ List.mem_cons_self)
              go_simp
              clear qc qz
              have E7 := Env.poke (v' := .int .i64 (less2_3 c k i).vars) (l' := _ :: l) E6 (List.mem_cons_of_mem _ List.mem_cons_self) f2 (fun p hp => by rcases List.mem_cons.1 hp with rfl | hp; exact ⟨List.mem_cons_self, by show b1 ≠ b2; omega⟩; exact ⟨List.mem_cons_of_mem _ (List.mem_cons_of_mem _ hp), Nat.ne_of_lt (g2 p hp)⟩)
              obtain ⟨v7, hv7⟩ : ∃ V, V = World.setCell v6 ⟨b2, 0, none⟩ (.int .i64 (less2_3 c k i).vars) := ⟨_, rfl⟩
              rw [← hv7] at E7 ⊢
              clear hv7
              refine hK.out _ _ (E7.cell (List.mem_cons_of_mem _ (List.mem_cons_of_mem _ m_m))) (fun hHeld => ?_)
              clear hK K
              try simp only [Act.put, List.setIfInBounds_toArray, List.set_cons_zero, List.set_cons_succ]
              refine wpAnyH_done (by kernel_rfl) ?_ _
              exact ⟨b1, b2, rfl, hr1, hr2, hr3, hr4, E7⟩
          · have f2 := Env.base E2
            have g2 : ∀ p ∈ l, p.1 < _ := fun p hp => Env.lt E2 (List.mem_cons_of_mem _ hp)
            have gne := Env.lt E2 List.mem_cons_self
            have E3 := Env.box E2 (.int .i64 0) 3
            go_simp
            try simp only [World.size_drew] at f2 g2 E3 gne
            obtain ⟨v3, hv3⟩ : ∃ V, V = World.alloc v2 (.cells #[.int .i64 0] 3) := ⟨_, rfl⟩
            rw [← hv3] at E3 ⊢
            clear hv3
            generalize v2.heap.size = b2 at f2 g2 E3 gne ⊢
            refine hK.out _ _ (E3.cell (List.mem_cons_of_mem _ (List.mem_cons_of_mem _ m_m))) (fun hHeld => ?_)
            clear hK K
            try simp only [Act.put, List.setIfInBounds_toArray, List.set_cons_zero, List.set_cons_succ]
            refine wpAnyH_ready (rs := [8]) (by kernel_rfl) (by simp) ?_
            refine AllReadyH.cons rfl (fun K hK => ?_) AllReadyH.nil
            go_simp
            refine (math_any ⟨#[43]⟩ 2 i hz_2 h_i (by decide) E3).mono ?_
            rintro e v4 ⟨rfl, E4_⟩
            have E4 : Env B w0 bm _ (n + 11) (less2_3 c k i) k v4 := E4_
            clear E4_
            try go_wp2_with fail
            refine hK.out _ _ (E4.cell (List.mem_cons_of_mem _ (List.mem_cons_of_mem _ m_m))) (fun hHeld => ?_)
            clear hK K
            try simp only [Act.put, List.setIfInBounds_toArray, List.set_cons_zero, List.set_cons_succ]
            have hr3 := InI.vars E3
            refine wpAnyH_ready (rs := [9]) (by kernel_rfl) (by simp) ?_
            refine AllReadyH.cons rfl (fun K hK => ?_) AllReadyH.nil
            go_simp
            refine (load_any (less2_2 c k i).vars 0 hr3 hz_0 E4).mono ?_
            rintro e v5 ⟨rfl, E5_⟩
            have E5 : Env B w0 bm _ (n + 9) (less2_4 c k i) k v5 := E5_
            clear E5_
            try go_wp2_with fail
            refine hK.out _ _ (E5.cell (List.mem_cons_of_mem _ (List.mem_cons_of_mem _ m_m))) (fun hHeld => ?_)
            clear hK K
            try simp only [Act.put, List.setIfInBounds_toArray, List.set_cons_zero, List.set_cons_succ]
            have hr4 := InI.vars E4
            refine wpAnyH_ready (rs := [12]) (by kernel_rfl) (by simp) ?_
            refine AllReadyH.cons rfl (fun K hK => ?_) AllReadyH.nil
            have qc := Env.cell E5 (List.mem_cons_of_mem _ List.mem_cons_self)
            have qz := Env.frozen E5 (List.mem_cons_of_mem _ List.mem_cons_self)
            go_simp
            clear qc qz
            have E6 := Env.poke (v' := .int .i64 (less2_1 c k i).vars) (l' := _ :: l) E5 (List.mem_cons_of_mem _ List.mem_cons_self) f1 (fun p hp => by rcases List.mem_cons.1 hp with rfl | hp; exact ⟨List.mem_cons_self, by show b2 ≠ b1; omega⟩; exact ⟨List.mem_cons_of_mem _ (List.mem_cons_of_mem _ hp), Nat.ne_of_lt (g1 p hp)⟩)
            obtain ⟨v6, hv6⟩ : ∃ V, V = World.setCell v5 ⟨b1, 0, none⟩ (.int .i64 (less2_1 c k i).vars) := ⟨_, rfl⟩
            rw [← hv6] at E6 ⊢
            clear hv6
            refine hK.out _ _ (E6.cell (List.mem_cons_of_mem _ (List.mem_cons_of_mem _ m_m))) (fun hHeld => ?_)
            clear hK K
            try simp only [Act.put, List.setIfInBounds_toArray, List.set_cons_zero, List.set_cons_succ]
            refine wpAnyH_ready (rs := [13]) (by kernel_rfl) (by simp) ?_
            refine AllReadyH.cons rfl (fun K hK => ?_) AllReadyH.nil
            have qc := Env.cell E6 (List.mem_cons_of_mem _ List.mem_cons_self)
            have qz := Env.frozen E6 (List.mem_cons_of_mem _ List.mem_cons_self)
            go_simp
            clear qc qz
            have E7 := Env.poke (v' := .int .i64 (less2_3 c k i).vars) (l' := _ :: l) E6 (List.mem_cons_of_mem _ List.mem_cons_self) f2 (fun p hp => by rcases List.mem_cons.1 hp with rfl | hp; exact ⟨List.mem_cons_self, by show b1 ≠ b2; omega⟩; exact ⟨List.mem_cons_of_mem _ (List.mem_cons_of_mem _ hp), Nat.ne_of_lt (g2 p hp)⟩)
            obtain ⟨v7, hv7⟩ : ∃ V, V = World.setCell v6 ⟨b2, 0, none⟩ (.int .i64 (less2_3 c k i).vars) := ⟨_, rfl⟩
            rw [← hv7] at E7 ⊢
            clear hv7
            refine hK.out _ _ (E7.cell (List.mem_cons_of_mem _ (List.mem_cons_of_mem _ m_m))) (fun hHeld => ?_)
            clear hK K
            try simp only [Act.put, List.setIfInBounds_toArray, List.set_cons_zero, List.set_cons_succ]
            refine wpAnyH_done (by kernel_rfl) ?_ _
            exact ⟨b1, b2, rfl, hr1, hr2, hr3, hr4, E7⟩
        · have f2 := Env.base E1
          have g2 : ∀ p ∈ l, p.1 < _ := fun p hp => Env.lt E1 (List.mem_cons_of_mem _ hp)
          have gne := Env.lt E1 List.mem_cons_self
          have E2 := Env.box E1 (.int .i64 0) 3
          go_simp
          try simp only [World.size_drew] at f2 g2 E2 gne
          obtain ⟨v2, hv2⟩ : ∃ V, V = World.alloc v1 (.cells #[.int .i64 0] 3) := ⟨_, rfl⟩
          rw [← hv2] at E2 ⊢
          clear hv2
          generalize v1.heap.size = b2 at f2 g2 E2 gne ⊢
          refine hK.out _ _ (E2.cell (List.mem_cons_of_mem _ (List.mem_cons_of_mem _ m_m))) (fun hHeld => ?_)
          clear hK K
          try simp only [Act.put, List.setIfInBounds_toArray, List.set_cons_zero, List.set_cons_succ]
          refine wpAnyH_ready (rs := [4]) (by kernel_rfl) (by simp) ?_
          refine AllReadyH.cons rfl (fun K hK => ?_) AllReadyH.nil
          go_simp
          refine (load_any c.vars 0 hr1 hz_0 E2).mono ?_
          rintro e v3 ⟨rfl, E3_⟩
          have E3 : Env B w0 bm _ (n + 13) (less2_2 c k i) k v3 := E3_
          clear E3_
          try go_wp2_with fail
          refine hK.out _ _ (E3.cell (List.mem_cons_of_mem _ (List.mem_cons_of_mem _ m_m))) (fun hHeld => ?_)
          clear hK K
          try simp only [Act.put, List.setIfInBounds_toArray, List.set_cons_zero, List.set_cons_succ]
          have hr2 := InI.vars E2
          refine wpAnyH_ready (rs := [8]) (by kernel_rfl) (by simp) ?_
          refine AllReadyH.cons rfl (fun K hK => ?_) AllReadyH.nil
          go_simp
          refine (math_any ⟨#[43]⟩ 2 i hz_2 h_i (by decide) E3).mono ?_
          rintro e v4 ⟨rfl, E4_⟩
          have E4 : Env B w0 bm _ (n + 11) (less2_3 c k i) k v4 := E4_
          clear E4_
          try go_wp2_with fail
          refine hK.out _ _ (E4.cell (List.mem_cons_of_mem _ (List.mem_cons_of_mem _ m_m))) (fun hHeld => ?_)
          clear hK K
          try simp only [Act.put, List.setIfInBounds_toArray, List.set_cons_zero, List.set_cons_succ]
          have hr3 := InI.vars E3
          refine wpAnyH_ready (rs := [9]) (by kernel_rfl) (by simp) ?_
          refine AllReadyH.cons rfl (fun K hK => ?_) AllReadyH.nil
          go_simp
          refine (load_any (less2_2 c k i).vars 0 hr3 hz_0 E4).mono ?_
          rintro e v5 ⟨rfl, E5_⟩
          have E5 : Env B w0 bm _ (n + 9) (less2_4 c k i) k v5 := E5_
          clear E5_
          try go_wp2_with fail
          refine hK.out _ _ (E5.cell (List.mem_cons_of_mem _ (List.mem_cons_of_mem _ m_m))) (fun hHeld => ?_)
          clear hK K
          try simp only [Act.put, List.setIfInBounds_toArray, List.set_cons_zero, List.set_cons_succ]
          have hr4 := InI.vars E4
          refine wpAnyH_ready (rs := [12]) (by kernel_rfl) (by simp) ?_
          refine AllReadyH.cons rfl (fun K hK => ?_) AllReadyH.nil
          have qc := Env.cell E5 (List.mem_cons_of_mem _ List.mem_cons_self)
          have qz := Env.frozen E5 (List.mem_cons_of_mem _ List.mem_cons_self)
          go_simp
          clear qc qz
          have E6 := Env.poke (v' := .int .i64 (less2_1 c k i).vars) (l' := _ :: l) E5 (List.mem_cons_of_mem _ List.mem_cons_self) f1 (fun p hp => by rcases List.mem_cons.1 hp with rfl | hp; exact ⟨List.mem_cons_self, by show b2 ≠ b1; omega⟩; exact ⟨List.mem_cons_of_mem _ (List.mem_cons_of_mem _ hp), Nat.ne_of_lt (g1 p hp)⟩)
          obtain ⟨v6, hv6⟩ : ∃ V, V = World.setCell v5 ⟨b1, 0, none⟩ (.int .i64 (less2_1 c k i).vars) := ⟨_, rfl⟩
          rw [← hv6] at E6 ⊢
          clear hv6
          refine hK.out _ _ (E6.cell (List.mem_cons_of_mem _ (List.mem_cons_of_mem _ m_m))) (fun hHeld => ?_)
          clear hK K
          try simp only [Act.put, List.setIfInBounds_toArray, List.set_cons_zero, List.set_cons_succ]
          refine wpAnyH_ready (rs := [13]) (by kernel_rfl) (by simp) ?_
          refine AllReadyH.cons rfl (fun K hK => ?_) AllReadyH.nil
          have qc := Env.cell E6 (List.mem_cons_of_mem _ List.mem_cons_self)
          have qz := Env.frozen E6 (List.mem_cons_of_mem _ List.mem_cons_self)
          go_simp
          clear qc qz
          have E7 := Env.poke (v' := .int .i64 (less2_3 c k i).vars) (l' := _ :: l) E6 (List.mem_cons_of_mem _ List.mem_cons_self) f2 (fun p hp => by rcases List.mem_cons.1 hp with rfl | hp; exact ⟨List.mem_cons_self, by show b1 ≠ b2; omega⟩; exact ⟨List.mem_cons_of_mem _ (List.mem_cons_of_mem _ hp), Nat.ne_of_lt (g2 p hp)⟩)
          obtain ⟨v7, hv7⟩ : ∃ V, V = World.setCell v6 ⟨b2, 0, none⟩ (.int .i64 (less2_3 c k i).vars) := ⟨_, rfl⟩
          rw [← hv7] at E7 ⊢
          clear hv7
          refine hK.out _ _ (E7.cell (List.mem_cons_of_mem _ (List.mem_cons_of_mem _ m_m))) (fun hHeld => ?_)
          clear hK K
          try simp only [Act.put, List.setIfInBounds_toArray, List.set_cons_zero, List.set_cons_succ]
          refine wpAnyH_done (by kernel_rfl) ?_ _
          exact ⟨b1, b2, rfl, hr1, hr2, hr3, hr4, E7⟩
      · have f2 := Env.base E0
        have g2 : ∀ p ∈ l, p.1 < _ := fun p hp => Env.lt E0 (List.mem_cons_of_mem _ hp)
        have gne := Env.lt E0 List.mem_cons_self
        have E1 := Env.box E0 (.int .i64 0) 3
        go_simp
        try simp only [World.size_drew] at f2 g2 E1 gne
        obtain ⟨v1, hv1⟩ : ∃ V, V = World.alloc v0 (.cells #[.int .i64 0] 3) := ⟨_, rfl⟩
        rw [← hv1] at E1 ⊢
        clear hv1
        generalize v0.heap.size = b2 at f2 g2 E1 gne ⊢
        refine hK.out _ _ (E1.cell (List.mem_cons_of_mem _ (List.mem_cons_of_mem _ m_m))) (fun hHeld => ?_)
        clear hK K
        try simp only [Act.put, List.setIfInBounds_toArray, List.set_cons_zero, List.set_cons_succ]
        refine wpAnyH_ready (rs := [3]) (by kernel_rfl) (by simp) ?_
        refine AllReadyH.cons rfl (fun K hK => ?_) AllReadyH.nil
        go_simp
        refine (math_any ⟨#[43]⟩ 0 i hz_0 h_i (by decide) E1).mono ?_
        rintro e v2 ⟨rfl, E2_⟩
        have E2 : Env B w0 bm _ (n + 15) (less2_1 c k i) k v2 := E2_
        clear E2_
        try go_wp2_with fail
        refine hK.out _ _ (E2.cell (List.mem_cons_of_mem _ (List.mem_cons_of_mem _ m_m))) (fun hHeld => ?_)
        clear hK K
        try simp only [Act.put, List.setIfInBounds_toArray, List.set_cons_zero, List.set_cons_succ]
        have hr1 := InI.vars E1
        refine wpAnyH_ready (rs := [4]) (by kernel_rfl) (by simp) ?_
        refine AllReadyH.cons rfl (fun K hK => ?_) AllReadyH.nil
        go_simp
        refine (load_any c.vars 0 hr1 hz_0 E2).mono ?_
        rintro e v3 ⟨rfl, E3_⟩
        have E3 : Env B w0 bm _ (n + 13) (less2_2 c k i) k v3 := E3_
        clear E3_
        try go_wp2_with fail
        refine hK.out _ _ (E3.cell (List.mem_cons_of_mem _ (List.mem_cons_of_mem _ m_m))) (fun hHeld => ?_)
        clear hK K
        try simp only [Act.put, List.setIfInBounds_toArray, List.set_cons_zero, List.set_cons_succ]
        have hr2 := InI.vars E2
        refine wpAnyH_ready (rs := [8]) (by kernel_rfl) (by simp) ?_
        refine AllReadyH.cons rfl (fun K hK => ?_) AllReadyH.nil
        go_simp
        refine (math_any ⟨#[43]⟩ 2 i hz_2 h_i (by decide) E3).mono ?_
        rintro e v4 ⟨rfl, E4_⟩
        have E4 : Env B w0 bm _ (n + 11) (less2_3 c k i) k v4 := E4_
        clear E4_
        try go_wp2_with fail
        refine hK.out _ _ (E4.cell (List.mem_cons_of_mem _ (List.mem_cons_of_mem _ m_m))) (fun hHeld => ?_)
        clear hK K
        try simp only [Act.put, List.setIfInBounds_toArray, List.set_cons_zero, List.set_cons_succ]
        have hr3 := InI.vars E3
        refine wpAnyH_ready (rs := [9]) (by kernel_rfl) (by simp) ?_
        refine AllReadyH.cons rfl (fun K hK => ?_) AllReadyH.nil
        go_simp
        refine (load_any (less2_2 c k i).vars 0 hr3 hz_0 E4).mono ?_
        rintro e v5 ⟨rfl, E5_⟩
        have E5 : Env B w0 bm _ (n + 9) (less2_4 c k i) k v5 := E5_
        clear E5_
        try go_wp2_with fail
        refine hK.out _ _ (E5.cell (List.mem_cons_of_mem _ (List.mem_cons_of_mem _ m_m))) (fun hHeld => ?_)
        clear hK K
        try simp only [Act.put, List.setIfInBounds_toArray, List.set_cons_zero, List.set_cons_succ]
        have hr4 := InI.vars E4
        refine wpAnyH_ready (rs := [12]) (by kernel_rfl) (by simp) ?_
        refine AllReadyH.cons rfl (fun K hK => ?_) AllReadyH.nil
        have qc := Env.cell E5 (List.mem_cons_of_mem _ List.mem_cons_self)
        have qz := Env.frozen E5 (List.mem_cons_of_mem _ List.mem_cons_self)
        go_simp
        clear qc qz
        have E6 := Env.poke (v' := .int .i64 (less2_1 c k i).vars) (l' := _ :: l) E5 (List.mem_cons_of_mem _ List.mem_cons_self) f1 (fun p hp => by rcases List.mem_cons.1 hp with rfl | hp; exact ⟨List.mem_cons_self, by show b2 ≠ b1; omega⟩; exact ⟨List.mem_cons_of_mem _ (List.mem_cons_of_mem _ hp), Nat.ne_of_lt (g1 p hp)⟩)
        obtain ⟨v6, hv6⟩ : ∃ V, V = World.setCell v5 ⟨b1, 0, none⟩ (.int .i64 (less2_1 c k i).vars) := ⟨_, rfl⟩
        rw [← hv6] at E6 ⊢
        clear hv6
        refine hK.out _ _ (E6.cell (List.mem_cons_of_mem _ (List.mem_cons_of_mem _ m_m))) (fun hHeld => ?_)
        clear hK K
        try simp only [Act.put, List.setIfInBounds_toArray, List.set_cons_zero, List.set_cons_succ]
        refine wpAnyH_ready (rs := [13]) (by kernel_rfl) (by simp) ?_
        refine AllReadyH.cons rfl (fun K hK => ?_) AllReadyH.nil
        have qc := Env.cell E6 (List.mem_cons_of_mem _ List.mem_cons_self)
        have qz := Env.frozen E6 (List.mem_cons_of_mem _ List.mem_cons_self)
        go_simp
        clear qc qz
        have E7 := Env.poke (v' := .int .i64 (less2_3 c k i).vars) (l' := _ :: l) E6 (List.mem_cons_of_mem _ List.mem_cons_self) f2 (fun p hp => by rcases List.mem_cons.1 hp with rfl | hp; exact ⟨List.mem_cons_self, by show b1 ≠ b2; omega⟩; exact ⟨List.mem_cons_of_mem _ (List.mem_cons_of_mem _ hp), Nat.ne_of_lt (g2 p hp)⟩)
        obtain ⟨v7, hv7⟩ : ∃ V, V = World.setCell v6 ⟨b2, 0, none⟩ (.int .i64 (less2_3 c k i).vars) := ⟨_, rfl⟩
        rw [← hv7] at E7 ⊢
        clear hv7
        refine hK.out _ _ (E7.cell (List.mem_cons_of_mem _ (List.mem_cons_of_mem _ m_m))) (fun hHeld => ?_)
        clear hK K
        try simp only [Act.put, List.setIfInBounds_toArray, List.set_cons_zero, List.set_cons_succ]
        refine wpAnyH_done (by kernel_rfl) ?_ _
        exact ⟨b1, b2, rfl, hr1, hr2, hr3, hr4, E7⟩
    · have f2 := Env.base hd0
      have g2 : ∀ p ∈ l, p.1 < _ := fun p hp => Env.lt hd0 hp
      have E0 : Env _ _ _ ((w.heap.size, 0, .int .i64 0) :: _) _ _ _ ((World.alloc w (.cells #[.int .i64 0] 3)).drew) := Env.box hd0 (.int .i64 0) 3
      go_simp
      try simp only [World.size_drew] at f2 g2 E0
      obtain ⟨v0, hv0⟩ : ∃ V, V = (World.alloc w (.cells #[.int .i64 0] 3)).drew := ⟨_, rfl⟩
      rw [← hv0] at E0 ⊢
      clear hv0
      generalize w.heap.size = b2 at f2 g2 E0 ⊢
      refine hK.out _ _ (E0.cell (List.mem_cons_of_mem _ m_m)) (fun hHeld => ?_)
      clear hK K
      try simp only [Act.put, List.setIfInBounds_toArray, List.set_cons_zero, List.set_cons_succ]
      refine wpAnyH_ready (rs := [3, 10]) (by kernel_rfl) (by simp) ?_
      refine AllReadyH.cons rfl (fun K hK => ?_) (AllReadyH.cons rfl (fun K hK => ?_) AllReadyH.nil)
      · go_simp
        refine (math_any ⟨#[43]⟩ 0 i hz_0 h_i (by decide) E0).mono ?_
        rintro e v1 ⟨rfl, E1_⟩
        have E1 : Env B w0 bm _ (n + 15) (less2_1 c k i) k v1 := E1_
        clear E1_
        try go_wp2_with fail
        refine hK.out _ _ (E1.cell (List.mem_cons_of_mem _ m_m)) (fun hHeld => ?_)
        clear hK K
        try simp only [Act.put, List.setIfInBounds_toArray, List.set_cons_zero, List.set_cons_succ]
        have hr1 := InI.vars E0
        refine wpAnyH_ready (rs := [4, 10]) (by kernel_rfl) (by simp) ?_
        refine AllReadyH.cons rfl (fun K hK => ?_) (AllReadyH.cons rfl (fun K hK => ?_) AllReadyH.nil)
        · go_simp
          refine (load_any c.vars 0 hr1 hz_0 E1).mono ?_
          rintro e v2 ⟨rfl, E2_⟩
          have E2 : Env B w0 bm _ (n + 13) (less2_2 c k i) k v2 := E2_
          clear E2_
          try go_wp2_with fail
          refine hK.out _ _ (E2.cell (List.mem_cons_of_mem _ m_m)) (fun hHeld => ?_)
          clear hK K
          try simp only [Act.put, List.setIfInBounds_toArray, List.set_cons_zero, List.set_cons_succ]
          have hr2 := InI.vars E1
          refine wpAnyH_ready (rs := [8, 10]) (by kernel_rfl) (by simp) ?_
          refine AllReadyH.cons rfl (fun K hK => ?_) (AllReadyH.cons rfl (fun K hK => ?_) AllReadyH.nil)
          · go_simp
            refine (math_any ⟨#[43]⟩ 2 i hz_2 h_i (by decide) E2).mono ?_
            rintro e v3 ⟨rfl, E3_⟩
            have E3 : Env B w0 bm _ (n + 11) (less2_3 c k i) k v3 := E3_
            clear E3_
            try go_wp2_with fail
            refine hK.out _ _ (E3.cell (List.mem_cons_of_mem _ m_m)) (fun hHeld => ?_)
            clear hK K
            try simp only [Act.put, List.setIfInBounds_toArray, List.set_cons_zero, List.set_cons_succ]
            have hr3 := InI.vars E2
            refine wpAnyH_ready (rs := [9, 10]) (by kernel_rfl) (by simp) ?_
            refine AllReadyH.cons rfl (fun K hK => ?_) (AllReadyH.cons rfl (fun K hK => ?_) AllReadyH.nil)
            · go_simp
              refine (load_any (less2_2 c k i).vars 0 hr3 hz_0 E3).mono ?_
              rintro e v4 ⟨rfl, E4_⟩
              have E4 : Env B w0 bm _ (n + 9) (less2_4 c k i) k v4 := E4_
              clear E4_
              try go_wp2_with fail
              refine hK.out _ _ (E4.cell (List.mem_cons_of_mem _ m_m)) (fun hHeld => ?_)
              clear hK K
              try simp only [Act.put, List.setIfInBounds_toArray, List.set_cons_zero, List.set_cons_succ]
              have hr4 := InI.vars E3
              refine wpAnyH_ready (rs := [10]) (by kernel_rfl) (by simp) ?_
              refine AllReadyH.cons rfl (fun K hK => ?_) AllReadyH.nil
              have f1 := Env.base E4
              have g1 : ∀ p ∈ l, p.1 < _ := fun p hp => Env.lt E4 (List.mem_cons_of_mem _ hp)
              have gne := Env.lt E4 List.mem_cons_self
              have E5 := Env.box E4 (.int .i64 0) 3
              go_simp
              try simp only [World.size_drew] at f1 g1 E5 gne
              obtain ⟨v5, hv5⟩ : ∃ V, V = World.alloc v4 (.cells #[.int .i64 0] 3) := ⟨_, rfl⟩
              rw [← hv5] at E5 ⊢
              clear hv5
              generalize v4.heap.size = b1 at f1 g1 E5 gne ⊢
              refine hK.out _ _ (E5.cell (List.mem_cons_of_mem _ (List.mem_cons_of_mem _ m_m))) (fun hHeld => ?_)
              clear hK K
              try simp only [Act.put, List.setIfInBounds_toArray, List.set_cons_zero, List.set_cons_succ]
              refine wpAnyH_ready (rs := [12]) (by kernel_rfl) (by simp) ?_
              refine AllReadyH.cons rfl (fun K hK => ?_) AllReadyH.nil
              have qc := Env.cell E5 List.mem_cons_self
              have qz := Env.frozen E5 List.mem_cons_self
              go_simp
              clear qc qz
              have E6 := Env.poke (v' := .int .i64 (less2_1 c k i).vars) (l' := _ :: l) E5 List.mem_cons_self f1 (fun p hp => by rcases List.mem_cons.1 hp with rfl | hp; exact ⟨(List.mem_cons_of_mem _ List.mem_cons_self), by show b2 ≠ b1; omega⟩; exact ⟨List.mem_cons_of_mem _ (List.mem_cons_of_mem _ hp), Nat.ne_of_lt (g1 p hp)⟩)
              obtain ⟨v6, hv6⟩ : ∃ V, V = World.setCell v5 ⟨b1, 0, none⟩ (.int .i64 (less2_1 c k i).vars) := ⟨_, rfl⟩
              rw [← hv6] at E6 ⊢
              clear hv6
              refine hK.out _ _ (E6.cell (List.mem_cons_of_mem _ (List.mem_cons_of_mem _ m_m))) (fun hHeld => ?_)
              clear hK K
              try simp only [Act.put, List.setIfInBounds_toArray, List.set_cons_zero, List.set_cons_succ]
              refine wpAnyH_ready (rs := [13]) (by kernel_rfl) (by simp) ?_
              refine AllReadyH.cons rfl (fun K hK => ?_) AllReadyH.nil
              have qc := Env.cell E6 (List.mem_cons_of_mem _ List.mem_cons_self)
              have qz := Env.frozen E6 (List.mem_cons_of_mem _ List.mem_cons_self)
              go_simp
              clear qc qz
              have E7 := Env.poke (v' := .int .i64 (less2_3 c k i).vars) (l' := _ :: l) E6 (List.mem_cons_of_mem _ List.mem_cons_self) f2 (fun p hp => by rcases List.mem_cons.1 hp with rfl | hp; exact ⟨List.mem_cons_self, by show b1 ≠ b2; omega⟩; exact ⟨List.mem_cons_of_mem _ (List.mem_cons_of_mem _ hp), Nat.ne_of_lt (g2 p hp)⟩)
              obtain ⟨v7, hv7⟩ : ∃ V, V = World.setCell v6 ⟨b2, 0, none⟩ (.int .i64 (less2_3 c k i).vars) := ⟨_, rfl⟩
              rw [← hv7] at E7 ⊢
              clear hv7
              refine hK.out _ _ (E7.cell (List.mem_cons_of_mem _ (List.mem_cons_of_mem _ m_m))) (fun hHeld => ?_)
              clear hK K
              try simp only [Act.put, List.setIfInBounds_toArray, List.set_cons_zero, List.set_cons_succ]
              refine wpAnyH_done (by kernel_rfl) ?_ _
              exact ⟨b1, b2, rfl, hr1, hr2, hr3, hr4, E7⟩
            · have f1 := Env.base E3
              have g1 : ∀ p ∈ l, p.1 < _ := fun p hp => Env.lt E3 (List.mem_cons_of_mem _ hp)
              have gne := Env.lt E3 List.mem_cons_self
              have E4 := Env.box E3 (.int .i64 0) 3
              go_simp
              try simp only [World.size_drew] at f1 g1 E4 gne
              obtain ⟨v4, hv4⟩ : ∃ V, V = World.alloc v3 (.cells #[.int .i64 0] 3) := ⟨_, rfl⟩
              rw [← hv4] at E4 ⊢
              clear hv4
              generalize v3.heap.size = b1 at f1 g1 E4 gne ⊢
              refine hK.out _ _ (E4.cell (List.mem_cons_of_mem _ (List.mem_cons_of_mem _ m_m))) (fun hHeld => ?_)
              clear hK K
              try simp only [Act.put, List.setIfInBounds_toArray, List.set_cons_zero, List.set_cons_succ]
              refine wpAnyH_ready (rs := [9]) (by kernel_rfl) (by simp) ?_
              refine AllReadyH.cons rfl (fun K hK => ?_) AllReadyH.nil
              go_simp
              refine (load_any (less2_2 c k i).vars 0 hr3 hz_0 E4).mono ?_
              rintro e v5 ⟨rfl, E5_⟩
              have E5 : Env B w0 bm _ (n + 9) (less2_4 c k i) k v5 := E5_
              clear E5_
              try go_wp2_with fail
              refine hK.out _ _ (E5.cell (List.mem_cons_of_mem _ (List.mem_cons_of_mem _ m_m))) (fun hHeld => ?_)
              clear hK K
              try simp only [Act.put, List.setIfInBounds_toArray, List.set_cons_zero, List.set_cons_succ]
              have hr4 := InI.vars E4
              refine wpAnyH_ready (rs := [12]) (by kernel_rfl) (by simp) ?_
              refine AllReadyH.cons rfl (fun K hK => ?_) AllReadyH.nil
              have qc := Env.cell E5 List.mem_cons_self
              have qz := Env.frozen E5 List.mem_cons_self
              go_simp
              clear qc qz
              have E6 := Env.poke (v' := .int .i64 (less2_1 c k i).vars) (l' := _ :: l) E5 List.mem_cons_self f1 (fun p hp => by rcases List.mem_cons.1 hp with rfl | hp; exact ⟨(List.mem_cons_of_mem _ List.mem_cons_self), by show b2 ≠ b1; omega⟩; exact ⟨List.mem_cons_of_mem _ (List.mem_cons_of_mem _ hp), Nat.ne_of_lt (g1 p hp)⟩)
              obtain ⟨v6, hv6⟩ : ∃ V, V = World.setCell v5 ⟨b1, 0, none⟩ (.int .i64 (less2_1 c k i).vars) := ⟨_, rfl⟩
              rw [← hv6] at E6 ⊢
              clear hv6
              refine hK.out _ _ (E6.cell (List.mem_cons_of_mem _ (List.mem_cons_of_mem _ m_m))) (fun hHeld => ?_)
              clear hK K
              try simp only [Act.put, List.setIfInBounds_toArray, List.set_cons_zero, List.set_cons_succ]
              refine wpAnyH_ready (rs := [13]) (by kernel_rfl) (by simp) ?_
              refine AllReadyH.cons rfl (fun K hK => ?_) AllReadyH.nil
              have qc := Env.cell E6 (List.mem_cons_of_mem _ List.mem_cons_self)
              have qz := Env.frozen E6 (List.mem_cons_of_mem _ List.mem_cons_self)
              go_simp
              clear qc qz
              have E7 := Env.poke (v' := .int .i64 (less2_3 c k i).vars) (l' := _ :: l) E6 (List.mem_cons_of_mem _ List.mem_cons_self) f2 (fun p hp => by rcases List.mem_cons.1 hp with rfl | hp; exact ⟨List.mem_cons_self, by show b1 ≠ b2; omega⟩; exact ⟨List.mem_cons_of_mem _ (List.mem_cons_of_mem _ hp), Nat.ne_of_lt (g2 p hp)⟩)
              obtain ⟨v7, hv7⟩ : ∃ V, V = World.setCell v6 ⟨b2, 0, none⟩ (.int .i64 (less2_3 c k i).vars) := ⟨_, rfl⟩
              rw [← hv7] at E7 ⊢
              clear hv7
              refine hK.out _ _ (E7.cell (List.mem_cons_of_mem _ (List.mem_cons_of_mem _ m_m))) (fun hHeld => ?_)
              clear hK K
              try simp only [Act.put, List.setIfInBounds_toArray, List.set_cons_zero, List.set_cons_succ]
              refine wpAnyH_done (by kernel_rfl) ?_ _
              exact ⟨b1, b2, rfl, hr1, hr2, hr3, hr4, E7⟩
          · have f1 := Env.base E2
            have g1 : ∀ p ∈ l, p.1 < _ := fun p hp => Env.lt E2 (List.mem_cons_of_mem _ hp)
            have gne := Env.lt E2 List.mem_cons_self
            have E3 := Env.box E2 (.int .i64 0) 3
            go_simp
            try simp only [World.size_drew] at f1 g1 E3 gne
            obtain ⟨v3, hv3⟩ : ∃ V, V = World.alloc v2 (.cells #[.int .i64 0] 3) := ⟨_, rfl⟩
            rw [← hv3] at E3 ⊢
            clear hv3
            generalize v2.heap.size = b1 at f1 g1 E3 gne ⊢
            refine hK.out _ _ (E3.cell (List.mem_cons_of_mem _ (List.mem_cons_of_mem _ m_m))) (fun hHeld => ?_)
            clear hK K
            try simp only [Act.put, List.setIfInBounds_toArray, List.set_cons_zero, List.set_cons_succ]
            refine wpAnyH_ready (rs := [8]) (by kernel_rfl) (by simp) ?_
            refine AllReadyH.cons rfl (fun K hK => ?_) AllReadyH.nil
            go_simp
            refine (math_any ⟨#[43]⟩ 2 i hz_2 h_i (by decide) E3).mono ?_
            rintro e v4 ⟨rfl, E4_⟩
            have E4 : Env B w0 bm _ (n + 11) (less2_3 c k i) k v4 := E4_
            clear E4_
            try go_wp2_with fail
            refine hK.out _ _ (E4.cell (List.mem_cons_of_mem _ (List.mem_cons_of_mem _ m_m))) (fun hHeld => ?_)
            clear hK K
            try simp only [Act.put, List.setIfInBounds_toArray, List.set_cons_zero, List.set_cons_succ]
            have hr3 := InI.vars E3
            refine wpAnyH_ready (rs := [9]) (by kernel_rfl) (by simp) ?_
            refine AllReadyH.cons rfl (fun K hK => ?_) AllReadyH.nil
            go_simp
            refine (load_any (less2_2 c k i).vars 0 hr3 hz_0 E4).mono ?_
            rintro e v5 ⟨rfl, E5_⟩
            have E5 : Env B w0 bm _ (n + 9) (less2_4 c k i) k v5 := E5_
            clear E5_
            try go_wp2_with fail
            refine hK.out _ _ (E5.cell (List.mem_cons_of_mem _ (List.mem_cons_of_mem _ m_m))) (fun hHeld => ?_)
            clear hK K
            try simp only [Act.put, List.setIfInBounds_toArray, List.set_cons_zero, List.set_cons_succ]
            have hr4 := InI.vars E4
            refine wpAnyH_ready (rs := [12]) (by kernel_rfl) (by simp) ?_
            refine AllReadyH.cons rfl (fun K hK => ?_) AllReadyH.nil
            have qc := Env.cell E5 List.mem_cons_self
            have qz := Env.frozen E5 List.mem_cons_self
            go_simp
            clear qc qz
            have E6 := Env.poke (v' := .int .i64 (less2_1 c k i).vars) (l' := _ :: l) E5 List.mem_cons_self f1 (fun p hp => by rcases List.mem_cons.1 hp with rfl | hp; exact ⟨(List.mem_cons_of_mem _ List.mem_cons_self), by show b2 ≠ b1; omega⟩; exact ⟨List.mem_cons_of_mem _ (List.mem_cons_of_mem _ hp), Nat.ne_of_lt (g1 p hp)⟩)
            obtain ⟨v6, hv6⟩ : ∃ V, V = World.setCell v5 ⟨b1, 0, none⟩ (.int .i64 (less2_1 c k i).vars) := ⟨_, rfl⟩
            rw [← hv6] at E6 ⊢
            clear hv6
            refine hK.out _ _ (E6.cell (List.mem_cons_of_mem _ (List.mem_cons_of_mem _ m_m))) (fun hHeld => ?_)
            clear hK K
            try simp only [Act.put, List.setIfInBounds_toArray, List.set_cons_zero, List.set_cons_succ]
            refine wpAnyH_ready (rs := [13]) (by kernel_rfl) (by simp) ?_
            refine AllReadyH.cons rfl (fun K hK => ?_) AllReadyH.nil
            have qc := Env.cell E6 (List.mem_cons_of_mem _ List.mem_cons_self)
            have qz := Env.frozen E6 (List.mem_cons_of_mem _ List.mem_cons_self)
            go_simp
            clear qc qz
            have E7 := Env.poke (v' := .int .i64 (less2_3 c k i).vars) (l' := _ :: l) E6 (List.mem_cons_of_mem _ List.mem_cons_self) f2 (fun p hp => by rcases List.mem_cons.1 hp with rfl | hp; exact ⟨List.mem_cons_self, by show b1 ≠ b2; omega⟩; exact ⟨List.mem_cons_of_mem _ (List.mem_cons_of_mem _ hp), Nat.ne_of_lt (g2 p hp)⟩)
            obtain ⟨v7, hv7⟩ : ∃ V, V = World.setCell v6 ⟨b2, 0, none⟩ (.int .i64 (less2_3 c k i).vars) := ⟨_, rfl⟩
            rw [← hv7] at E7 ⊢
            clear hv7
            refine hK.out _ _ (E7.cell (List.mem_cons_of_mem _ (List.mem_cons_of_mem _ m_m))) (fun hHeld => ?_)
            clear hK K
            try simp only [Act.put, List.setIfInBounds_toArray, List.set_cons_zero, List.set_cons_succ]
            refine wpAnyH_done (by kernel_rfl) ?_ _
            exact ⟨b1, b2, rfl, hr1, hr2, hr3, hr4, E7⟩
        · have f1 := Env.base E1
          have g1 : ∀ p ∈ l, p.1 < _ := fun p hp => Env.lt E1 (List.mem_cons_of_mem _ hp)
          have gne := Env.lt E1 List.mem_cons_self
          have E2 := Env.box E1 (.int .i64 0) 3
          go_simp
          try simp only [World.size_drew] at f1 g1 E2 gne
          obtain ⟨v2, hv2⟩ : ∃ V, V = World.alloc v1 (.cells #[.int .i64 0] 3) := ⟨_, rfl⟩
          rw [← hv2] at E2 ⊢
          clear hv2
          generalize v1.heap.size = b1 at f1 g1 E2 gne ⊢
          refine hK.out _ _ (E2.cell (List.mem_cons_of_mem _ (List.mem_cons_of_mem _ m_m))) (fun hHeld => ?_)
          clear hK K
          try simp only [Act.put, List.setIfInBounds_toArray, List.set_cons_zero, List.set_cons_succ]
          refine wpAnyH_ready (rs := [4]) (by kernel_rfl) (by simp) ?_
          refine AllReadyH.cons rfl (fun K hK => ?_) AllReadyH.nil
          go_simp
          refine (load_any c.vars 0 hr1 hz_0 E2).mono ?_
          rintro e v3 ⟨rfl, E3_⟩
          have E3 : Env B w0 bm _ (n + 13) (less2_2 c k i) k v3 := E3_
          clear E3_
          try go_wp2_with fail
          refine hK.out _ _ (E3.cell (List.mem_cons_of_mem _ (List.mem_cons_of_mem _ m_m))) (fun hHeld => ?_)
          clear hK K
          try simp only [Act.put, List.setIfInBounds_toArray, List.set_cons_zero, List.set_cons_succ]
          have hr2 := InI.vars E2
          refine wpAnyH_ready (rs := [8]) (by kernel_rfl) (by simp) ?_
          refine AllReadyH.cons rfl (fun K hK => ?_) AllReadyH.nil
          go_simp
          refine (math_any ⟨#[43]⟩ 2 i hz_2 h_i (by decide) E3).mono ?_
          rintro e v4 ⟨rfl, E4_⟩
          have E4 : Env B w0 bm _ (n + 11) (less2_3 c k i) k v4 := E4_
          clear E4_
          try go_wp2_with fail
          refine hK.out _ _ (E4.cell (List.mem_cons_of_mem _ (List.mem_cons_of_mem _ m_m))) (fun hHeld => ?_)
          clear hK K
          try simp only [Act.put, List.setIfInBounds_toArray, List.set_cons_zero, List.set_cons_succ]
          have hr3 := InI.vars E3
          refine wpAnyH_ready (rs := [9]) (by kernel_rfl) (by simp) ?_
          refine AllReadyH.cons rfl (fun K hK => ?_) AllReadyH.nil
          go_simp
          refine (load_any (less2_2 c k i).vars 0 hr3 hz_0 E4).mono ?_
          rintro e v5 ⟨rfl, E5_⟩
          have E5 : Env B w0 bm _ (n + 9) (less2_4 c k i) k v5 := E5_
          clear E5_
          try go_wp2_with fail
          refine hK.out _ _ (E5.cell (List.mem_cons_of_mem _ (List.mem_cons_of_mem _ m_m))) (fun hHeld => ?_)
          clear hK K
          try simp only [Act.put, List.setIfInBounds_toArray, List.set_cons_zero, List.set_cons_succ]
          have hr4 := InI.vars E4
          refine wpAnyH_ready (rs := [12]) (by kernel_rfl) (by simp) ?_
          refine AllReadyH.cons rfl (fun K hK => ?_) AllReadyH.nil
          have qc := Env.cell E5 List.mem_cons_self
          have qz := Env.frozen E5 List.mem_cons_self
          go_simp
          clear qc qz
          have E6 := Env.poke (v' := .int .i64 (less2_1 c k i).vars) (l' := _ :: l) E5 List.mem_cons_self f1 (fun p hp => by rcases List.mem_cons.1 hp with rfl | hp; exact ⟨(List.mem_cons_of_mem _ List.mem_cons_self), by show b2 ≠ b1; omega⟩; exact ⟨List.mem_cons_of_mem _ (List.mem_cons_of_mem _ hp), Nat.ne_of_lt (g1 p hp)⟩)
          obtain ⟨v6, hv6⟩ : ∃ V, V = World.setCell v5 ⟨b1, 0, none⟩ (.int .i64 (less2_1 c k i).vars) := ⟨_, rfl⟩
          rw [← hv6] at E6 ⊢
          clear hv6
          refine hK.out _ _ (E6.cell (List.mem_cons_of_mem _ (List.mem_cons_of_mem _ m_m))) (fun hHeld => ?_)
          clear hK K
          try simp only [Act.put, List.setIfInBounds_toArray, List.set_cons_zero, List.set_cons_succ]
          refine wpAnyH_ready (rs := [13]) (by kernel_rfl) (by simp) ?_
          refine AllReadyH.cons rfl (fun K hK => ?_) AllReadyH.nil
          have qc := Env.cell E6 (List.mem_cons_of_mem _ List.mem_cons_self)
          have qz := Env.frozen E6 (List.mem_cons_of_mem _ List.mem_cons_self)
          go_simp
          clear qc qz
          have E7 := Env.poke (v' := .int .i64 (less2_3 c k i).vars) (l' := _ :: l) E6 (List.mem_cons_of_mem _ List.mem_cons_self) f2 (fun p hp => by rcases List.mem_cons.1 hp with rfl | hp; exact ⟨List.mem_cons_self, by show b1 ≠ b2; omega⟩; exact ⟨List.mem_cons_of_mem _ (List.mem_cons_of_mem _ hp), Nat.ne_of_lt (g2 p hp)⟩)
          obtain ⟨v7, hv7⟩ : ∃ V, V = World.setCell v6 ⟨b2, 0, none⟩ (.int .i64 (less2_3 c k i).vars) := ⟨_, rfl⟩
          rw [← hv7] at E7 ⊢
          clear hv7
          refine hK.out _ _ (E7.cell (List.mem_cons_of_mem _ (List.mem_cons_of_mem _ m_m))) (fun hHeld => ?_)
          clear hK K
          try simp only [Act.put, List.setIfInBounds_toArray, List.set_cons_zero, List.set_cons_succ]
          refine wpAnyH_done (by kernel_rfl) ?_ _
          exact ⟨b1, b2, rfl, hr1, hr2, hr3, hr4, E7⟩
      · have f1 := Env.base E0
        have g1 : ∀ p ∈ l, p.1 < _ := fun p hp => Env.lt E0 (List.mem_cons_of_mem _ hp)
        have gne := Env.lt E0 List.mem_cons_self
        have E1 := Env.box E0 (.int .i64 0) 3
        go_simp
        try simp only [World.size_drew] at f1 g1 E1 gne
        obtain ⟨v1, hv1⟩ : ∃ V, V = World.alloc v0 (.cells #[.int .i64 0] 3) := ⟨_, rfl⟩
        rw [← hv1] at E1 ⊢
        clear hv1
        generalize v0.heap.size = b1 at f1 g1 E1 gne ⊢
        refine hK.out _ _ (E1.cell (List.mem_cons_of_mem _ (List.mem_cons_of_mem _ m_m))) (fun hHeld => ?_)
        clear hK K
        try simp only [Act.put, List.setIfInBounds_toArray, List.set_cons_zero, List.set_cons_succ]
        refine wpAnyH_ready (rs := [3]) (by kernel_rfl) (by simp) ?_
        refine AllReadyH.cons rfl (fun K hK => ?_) AllReadyH.nil
        go_simp
        refine (math_any ⟨#[43]⟩ 0 i hz_0 h_i (by decide) E1).mono ?_
        rintro e v2 ⟨rfl, E2_⟩
        have E2 : Env B w0 bm _ (n + 15) (less2_1 c k i) k v2 := E2_
        clear E2_
        try go_wp2_with fail
        refine hK.out _ _ (E2.cell (List.mem_cons_of_mem _ (List.mem_cons_of_mem _ m_m))) (fun hHeld => ?_)
        clear hK K
        try simp only [Act.put, List.setIfInBounds_toArray, List.set_cons_zero, List.set_cons_succ]
        have hr1 := InI.vars E1
        refine wpAnyH_ready (rs := [4]) (by kernel_rfl) (by simp) ?_
        refine AllReadyH.cons rfl (fun K hK => ?_) AllReadyH.nil
        go_simp
        refine (load_any c.vars 0 hr1 hz_0 E2).mono ?_
        rintro e v3 ⟨rfl, E3_⟩
        have E3 : Env B w0 bm _ (n + 13) (less2_2 c k i) k v3 := E3_
        clear E3_
        try go_wp2_with fail
        refine hK.out _ _ (E3.cell (List.mem_cons_of_mem _ (List.mem_cons_of_mem _ m_m))) (fun hHeld => ?_)
        clear hK K
        try simp only [Act.put, List.setIfInBounds_toArray, List.set_cons_zero, List.set_cons_succ]
        have hr2 := InI.vars E2
        refine wpAnyH_ready (rs := [8]) (by kernel_rfl) (by simp) ?_
        refine AllReadyH.cons rfl (fun K hK => ?_) AllReadyH.nil
        go_simp
        refine (math_any ⟨#[43]⟩ 2 i hz_2 h_i (by decide) E3).mono ?_
        rintro e v4 ⟨rfl, E4_⟩
        have E4 : Env B w0 bm _ (n + 11) (less2_3 c k i) k v4 := E4_
        clear E4_
        try go_wp2_with fail
        refine hK.out _ _ (E4.cell (List.mem_cons_of_mem _ (List.mem_cons_of_mem _ m_m))) (fun hHeld => ?_)
        clear hK K
        try simp only [Act.put, List.setIfInBounds_toArray, List.set_cons_zero, List.set_cons_succ]
        have hr3 := InI.vars E3
        refine wpAnyH_ready (rs := [9]) (by kernel_rfl) (by simp) ?_
        refine AllReadyH.cons rfl (fun K hK => ?_) AllReadyH.nil
        go_simp
        refine (load_any (less2_2 c k i).vars 0 hr3 hz_0 E4).mono ?_
        rintro e v5 ⟨rfl, E5_⟩
        have E5 : Env B w0 bm _ (n + 9) (less2_4 c k i) k v5 := E5_
        clear E5_
        try go_wp2_with fail
        refine hK.out _ _ (E5.cell (List.mem_cons_of_mem _ (List.mem_cons_of_mem _ m_m))) (fun hHeld => ?_)
        clear hK K
        try simp only [Act.put, List.setIfInBounds_toArray, List.set_cons_zero, List.set_cons_succ]
        have hr4 := InI.vars E4
        refine wpAnyH_ready (rs := [12]) (by kernel_rfl) (by simp) ?_
        refine AllReadyH.cons rfl (fun K hK => ?_) AllReadyH.nil
        have qc := Env.cell E5 List.mem_cons_self
        have qz := Env.frozen E5 List.mem_cons_self
        go_simp
        clear qc qz
        have E6 := Env.poke (v' := .int .i64 (less2_1 c k i).vars) (l' := _ :: l) E5 List.mem_cons_self f1 (fun p hp => by rcases List.mem_cons.1 hp with rfl | hp; exact ⟨(List.mem_cons_of_mem _ List.mem_cons_self), by show b2 ≠ b1; omega⟩; exact ⟨List.mem_cons_of_mem _ (List.mem_cons_of_mem _ hp), Nat.ne_of_lt (g1 p hp)⟩)
        obtain ⟨v6, hv6⟩ : ∃ V, V = World.setCell v5 ⟨b1, 0, none⟩ (.int .i64 (less2_1 c k i).vars) := ⟨_, rfl⟩
        rw [← hv6] at E6 ⊢
        clear hv6
        refine hK.out _ _ (E6.cell (List.mem_cons_of_mem _ (List.mem_cons_of_mem _ m_m))) (fun hHeld => ?_)
        clear hK K
        try simp only [Act.put, List.setIfInBounds_toArray, List.set_cons_zero, List.set_cons_succ]
        refine wpAnyH_ready (rs := [13]) (by kernel_rfl) (by simp) ?_
        refine AllReadyH.cons rfl (fun K hK => ?_) AllReadyH.nil
        have qc := Env.cell E6 (List.mem_cons_of_mem _ List.mem_cons_self)
        have qz := Env.frozen E6 (List.mem_cons_of_mem _ List.mem_cons_self)
        go_simp
        clear qc qz
        have E7 := Env.poke (v' := .int .i64 (less2_3 c k i).vars) (l' := _ :: l) E6 (List.mem_cons_of_mem _ List.mem_cons_self) f2 (fun p hp => by rcases List.mem_cons.1 hp with rfl | hp; exact ⟨List.mem_cons_self, by show b1 ≠ b2; omega⟩; exact ⟨List.mem_cons_of_mem _ (List.mem_cons_of_mem _ hp), Nat.ne_of_lt (g2 p hp)⟩)
        obtain ⟨v7, hv7⟩ : ∃ V, V = World.setCell v6 ⟨b2, 0, none⟩ (.int .i64 (less2_3 c k i).vars) := ⟨_, rfl⟩
        rw [← hv7] at E7 ⊢
        clear hv7
        refine hK.out _ _ (E7.cell (List.mem_cons_of_mem _ (List.mem_cons_of_mem _ m_m))) (fun hHeld => ?_)
        clear hK K
        try simp only [Act.put, List.setIfInBounds_toArray, List.set_cons_zero, List.set_cons_succ]
        refine wpAnyH_done (by kernel_rfl) ?_ _
        exact ⟨b1, b2, rfl, hr1, hr2, hr3, hr4, E7⟩) ?_
  clear hS0 hd0
  rintro b_x b_y w4 ⟨hr1, hr2, hr3, hr4, e4⟩
  obtain ⟨l1, hl1⟩ : ∃ l1, l1 = (b_y, 0, Value.int .i64 (less2_3 c k i).vars) :: (b_x, 0, Value.int .i64 (less2_1 c k i).vars) :: l := ⟨_, rfl⟩
  rw [← hl1] at e4
  have hfew : ∀ p ∈ l, p ∈ l1 := fun p hp => by rw [hl1]; simp [hp]
  have m_m := (show _ ∈ l1 from hl1 ▸ (List.mem_cons_of_mem _ (List.mem_cons_of_mem _ m_m)))
  have m_x : (b_x, 0, Value.int .i64 (less2_1 c k i).vars) ∈ l1 := by rw [hl1]; exact List.mem_cons_of_mem _ List.mem_cons_self
  have m_y : (b_y, 0, Value.int .i64 (less2_3 c k i).vars) ∈ l1 := by rw [hl1]; exact List.mem_cons_self
  have H4 := Lib.hid e4
  clear e4 hl1
  have hS := keep3 m_m m_x m_y H4.out.x
  go_wp2_with fail
  go_region_held3 (fun w' => (w'.cell? ⟨b_m, 0, none⟩ = some (.pointer (some ⟨bm, 0, none⟩)) ∧ w'.cell? ⟨b_x, 0, none⟩ = some (.int .i64 (less2_1 c k i).vars) ∧ w'.cell? ⟨b_y, 0, none⟩ = some (.int .i64 (less2_3 c k i).vars)) ∧ EnvX B w0 bm l1 w')
    (first | exact hS | exact keep3 m_m m_x m_y H4.out.x.drew | exact keep3 m_m m_x m_y (Env.x (by assumption)) | exact keep3 m_m m_x m_y (EnvX.drew (And.right (by assumption))))
    (first | (go_at_call 31; (refine (math_any ⟨#[33, 61]⟩ (less2_1 c k i).vars (less2_3 c k i).vars hr2 hr4 (by decide) H4.out.drew).mono ?_); rintro e w5 ⟨rfl, e50⟩; have e5 : Env B w0 bm l1 (n + 7) (less2_5 c k i) k w5 := e50; clear e50) | (go_at_call 36; (refine (when_any (ba := #[]) (m := n + 4) (n := n + 0) (c3 := less21_F (whenIn (less2_5 c k i) k (less2_4 c k i).vars) (less2_5 c k i).blocks.length (less2_1 c k i).vars (less2_3 c k i).vars) (k3 := less21_K (whenIn (less2_5 c k i) k (less2_4 c k i).vars) (less2_5 c k i).blocks.length (less2_1 c k i).vars (less2_3 c k i).vars) (InI.vars H4.out) enters_less21 e5 (fun w2 e2 => by exact less21_any hr2 hr4 m_m m_x m_y e2) (by rw [less21_len, whenIn_len]; omega)).mono ?_); rintro e w6 ⟨rfl, e60⟩; have e6 : Env B w0 bm l1 n (less2_6 c k i) ((less2_5 c k i).blocks.length + 1) w6 := e60; clear e60))
  all_goals
    have H6 := Lib.hid (e6.fewer hfew)
    clear hS
    go_wp2_with fail
    exact bodyPost_end (results_none (by kernel_rfl) _ _ _) rfl ⟨rfl, H6.out⟩
def less_1 (c : PCode) : PCode := freshF c
def less_2 (c : PCode) : PCode := setF (less_1 c) 0 c.vars 1
def less_3 (c : PCode) : PCode := mathF (less_2 c) 0 ⟨#[60]⟩ 3 1
def less_4 (c : PCode) : PCode := whenOut (less1_F (whenIn (less_3 c) 0 (less_2 c).vars) (less_3 c).blocks.length c.vars) (less1_K (whenIn (less_3 c) 0 (less_2 c).vars) (less_3 c).blocks.length c.vars) (((less_3 c).blocks.length : Int) + 1)
def less_5 (c : PCode) : PCode := konstF (less_4 c) ((less_3 c).blocks.length + 1) 0
def less_6 (c : PCode) : PCode := countOut (less2_F (countIn (less_5 c) ((less_3 c).blocks.length + 1) (less_4 c).vars c.vars) ((less_5 c).blocks.length + 1) (less_5 c).vars) (less2_K (countIn (less_5 c) ((less_3 c).blocks.length + 1) (less_4 c).vars c.vars) ((less_5 c).blocks.length + 1) (less_5 c).vars) (less_5 c).vars (less_5 c).blocks.length
def less_7 (c : PCode) : PCode := mathF (less_6 c) ((less_5 c).blocks.length + 2) ⟨#[60]⟩ 1 3
def less_8 (c : PCode) : PCode := backF (less_7 c) ((less_5 c).blocks.length + 2) [(less_6 c).vars]
def less_C : PCode := less_8 (beginF ⟨#[95, 108, 101, 115, 115]⟩ 4 1)
set_option maxHeartbeats 16000000 in
theorem rt_less_any (w : World) : Calls Try.prog 17 #[] w (CodePost w less_C) := by
  have hz_0 : InI 0 := ini rfl
  have hz_1 : InI 1 := ini rfl
  have hz_3 : InI 3 := ini rfl
  go_enter Try.func17, Try.ntmps17
  go_wp2_with fail
  refine (start_any ⟨#[95, 108, 101, 115, 115]⟩ 4 1 (by decide) (by decide) (by decide) _).mono ?_
  rintro e w0 ⟨bm, rfl, e00⟩
  have e0 : Env (w.heap.size + 1) (w.alloc (.cells zeroCode 31)) bm [] 900000 (beginF ⟨#[95, 108, 101, 115, 115]⟩ 4 1) 0 w0 := by
    rw [World.size_alloc] at e00; exact e00
  clear e00
  obtain ⟨n, hn⟩ : ∃ n, 900000 = n + 46 := ⟨900000 - 46, by decide⟩
  obtain ⟨c, hc⟩ : ∃ c, c = beginF ⟨#[95, 108, 101, 115, 115]⟩ 4 1 := ⟨_, rfl⟩
  rw [← hc, hn] at e0
  have HC := Lib.hid hc
  clear hn hc
  obtain ⟨W0, hW0⟩ : ∃ W, W = w.alloc (.cells zeroCode 31) := ⟨_, rfl⟩
  rw [← hW0] at e0
  have HW0 := Lib.hid hW0
  clear hW0
  have b0 := e0.box (.pointer (some ⟨bm, 0, none⟩)) 54
  obtain ⟨l1, hl1⟩ : ∃ l, l = (w0.heap.size, 0, Value.pointer (some ⟨bm, 0, none⟩)) :: [] := ⟨_, rfl⟩
  rw [← hl1] at b0
  obtain ⟨V0, hV0⟩ : ∃ W, W = w0.alloc (.cells #[.pointer (some ⟨bm, 0, none⟩)] 54) := ⟨_, rfl⟩
  rw [← hV0] at b0
  have m_m : (w0.heap.size, 0, Value.pointer (some ⟨bm, 0, none⟩)) ∈ l1 := by rw [hl1]; exact List.mem_cons_self
  have HV0 := Lib.hid hV0
  have H0 := Lib.hid b0
  clear hV0 hl1 b0
  clear e0
  have q_m := H0.out.cell m_m
  rw [HV0.out] at q_m
  go_wp2_with fail
  rw [← HV0.out]
  try rw [show w0.heap.size + 1 = V0.heap.size from by rw [HV0.out, World.size_alloc]]
  clear q_m
  refine (fresh_any H0.out).mono ?_
  rintro e w1 ⟨rfl, e10⟩
  have e1 : Env (w.heap.size + 1) W0 bm l1 (n + 45) (less_1 c) 0 w1 := e10
  have hr1 := InI.vars H0.out
  have b1 := e1.box (.int .i64 c.vars) 3
  obtain ⟨l2, hl2⟩ : ∃ l, l = (w1.heap.size, 0, Value.int .i64 c.vars) :: l1 := ⟨_, rfl⟩
  rw [← hl2] at b1
  obtain ⟨V1, hV1⟩ : ∃ W, W = w1.alloc (.cells #[.int .i64 c.vars] 3) := ⟨_, rfl⟩
  rw [← hV1] at b1
  have m_m := (show _ ∈ l2 from hl2 ▸ List.mem_cons_of_mem _ m_m)
  have m_v : (w1.heap.size, 0, Value.int .i64 c.vars) ∈ l2 := by rw [hl2]; exact List.mem_cons_self
  have HV1 := Lib.hid hV1
  have H1 := Lib.hid b1
  clear hV1 hl2 b1
  clear e1 e10
  have q_m := H1.out.cell m_m
  have q_v := H1.out.cell m_v
  rw [HV1.out] at q_m q_v
  go_wp2_with fail
  rw [← HV1.out]
  try rw [show w1.heap.size + 1 = V1.heap.size from by rw [HV1.out, World.size_alloc]]
  clear q_m q_v
  refine (set_any c.vars 1 hr1 hz_1 H1.out).mono ?_
  rintro e w2 ⟨rfl, e20⟩
  have e2 : Env (w.heap.size + 1) W0 bm l2 (n + 44) (less_2 c) 0 w2 := e20
  have H2 := Lib.hid e2
  clear e2 e20
  have hS := keep2 m_m m_v H2.out.x
  go_wp2_with fail
  go_region_held3 (fun w' => (w'.cell? ⟨w0.heap.size, 0, none⟩ = some (.pointer (some ⟨bm, 0, none⟩)) ∧ w'.cell? ⟨w1.heap.size, 0, none⟩ = some (.int .i64 c.vars)) ∧ EnvX (w.heap.size + 1) W0 bm l2 w')
    (first | exact hS | exact keep2 m_m m_v H2.out.x.drew | exact keep2 m_m m_v (Env.x (by assumption)) | exact keep2 m_m m_v (EnvX.drew (And.right (by assumption))) | exact keep2 m_m m_v (EnvX.alloc (Env.x (by assumption)) _) | exact keep2 m_m m_v (EnvX.alloc (And.right (by assumption)) _))
    (first | (go_at_call 31; (refine (math_any ⟨#[60]⟩ 3 1 hz_3 hz_1 (by decide) H2.out.drew).mono ?_); rintro e w3 ⟨rfl, e30⟩; have e3 : Env (w.heap.size + 1) W0 bm l2 (n + 42) (less_3 c) 0 w3 := e30; clear e30) | (go_at_call 36; (refine (when_any (ba := #[]) (m := n + 39) (n := n + 37) (c3 := less1_F (whenIn (less_3 c) 0 (less_2 c).vars) (less_3 c).blocks.length c.vars) (k3 := less1_K (whenIn (less_3 c) 0 (less_2 c).vars) (less_3 c).blocks.length c.vars) (InI.vars H2.out) enters_less1 e3 (fun w2 e2 => by exact less1_any hr1 m_m m_v e2) (by rw [less1_len, whenIn_len]; omega)).mono ?_); rintro e w4 ⟨rfl, e40⟩; have e4 : Env (w.heap.size + 1) W0 bm l2 (n + 37) (less_4 c) ((less_3 c).blocks.length + 1) w4 := e40; clear e40))
  all_goals
    have hr3 := InI.vars H2.out
    have H4 := Lib.hid e4
    clear hS
    have hS := keep2 m_m m_v H4.out.x
    go_wp2_with fail
    go_region_held3 (fun w' => (w'.cell? ⟨w0.heap.size, 0, none⟩ = some (.pointer (some ⟨bm, 0, none⟩)) ∧ w'.cell? ⟨w1.heap.size, 0, none⟩ = some (.int .i64 c.vars)) ∧ EnvX (w.heap.size + 1) W0 bm l2 w')
      (first | exact hS | exact keep2 m_m m_v H4.out.x.drew | exact keep2 m_m m_v (Env.x (by assumption)) | exact keep2 m_m m_v (EnvX.drew (And.right (by assumption))) | exact keep2 m_m m_v (EnvX.alloc (Env.x (by assumption)) _) | exact keep2 m_m m_v (EnvX.alloc (And.right (by assumption)) _))
      (first | (go_at_call 35; (refine (konst_any 0 hz_0 H4.out.drew).mono ?_); rintro e w5 ⟨rfl, e50⟩; have e5 : Env (w.heap.size + 1) W0 bm l2 (n + 35) (less_5 c) ((less_3 c).blocks.length + 1) w5 := e50; clear e50) | (go_at_call 38; (refine (count_any (m := n + 26) (n := n + 3) (c3 := less2_F (countIn (less_5 c) ((less_3 c).blocks.length + 1) (less_4 c).vars c.vars) ((less_5 c).blocks.length + 1) (less_5 c).vars) (k3 := less2_K (countIn (less_5 c) ((less_3 c).blocks.length + 1) (less_4 c).vars c.vars) ((less_5 c).blocks.length + 1) (less_5 c).vars) (InI.vars H4.out) hr1 enters_less2 e5 (fun w2 e2 => by exact less2_any (InI.vars e5) m_m e2) (by rw [less2_len, countIn_len]; omega)).mono ?_); rintro e w6 ⟨rfl, e60⟩; have e6 : Env (w.heap.size + 1) W0 bm l2 (n + 3) (less_6 c) ((less_5 c).blocks.length + 2) w6 := e60; clear e60))
    all_goals
      have hr5 := InI.vars H4.out
      have H6 := Lib.hid e6
      clear hS
      have hS := keep2 m_m m_v H6.out.x
      go_wp2_with fail
      go_region_held3 (fun w' => (w'.cell? ⟨w0.heap.size, 0, none⟩ = some (.pointer (some ⟨bm, 0, none⟩)) ∧ w'.cell? ⟨w1.heap.size, 0, none⟩ = some (.int .i64 c.vars)) ∧ EnvX (w.heap.size + 1) W0 bm l2 w')
        (first | exact hS | exact keep2 m_m m_v H6.out.x.drew | exact keep2 m_m m_v (Env.x (by assumption)) | exact keep2 m_m m_v (EnvX.drew (And.right (by assumption))) | exact keep2 m_m m_v (EnvX.alloc (Env.x (by assumption)) _) | exact keep2 m_m m_v (EnvX.alloc (And.right (by assumption)) _))
        (first | (go_at_call 31; (refine (math_any ⟨#[60]⟩ 1 3 hz_1 hz_3 (by decide) H6.out.drew).mono ?_); rintro e w7 ⟨rfl, e70⟩; have e7 : Env (w.heap.size + 1) W0 bm l2 (n + 1) (less_7 c) ((less_5 c).blocks.length + 2) w7 := e70; clear e70) | (go_at_call 34; (refine (back_any e7 ((Below.refl _ _).alloc (Nat.le_refl _) _) (rInts_all [(less_6 c).vars] (Nat.le_refl _) (lens rfl) (ini1 (InI.vars H6.out)) (new_one _ _))).mono ?_); rintro e w8 ⟨rfl, e80⟩; have e8 : Env (w.heap.size + 1) W0 bm l2 (n + 0) (less_8 c) ((less_5 c).blocks.length + 2) w8 := e80; clear e80))
      all_goals
        have hr7 := InI.vars H6.out
        have H8 := Lib.hid e8
        clear hS
        obtain ⟨hz1, hz2, gB, cB, ⟨d0, d1, d2, d3, d4, d5⟩, hrd⟩ := env_end H8.out
        obtain ⟨zc, zf⟩ := zero_cells w (HW0.out ▸ H8.out)
        have q_m := H8.out.cell m_m
        have z0 : w8.cell? ⟨w.heap.size, 0, none⟩ = some (.string ⟨#[]⟩) := zc 0
        have z1 : w8.cell? ⟨w.heap.size, 1, none⟩ = some (.int .i64 0) := zc 1
        have z2 : w8.cell? ⟨w.heap.size, 2, none⟩ = some (.int .i64 0) := zc 2
        have z3 : w8.cell? ⟨w.heap.size, 3, none⟩ = some (.int .i64 0) := zc 3
        have z4 : w8.cell? ⟨w.heap.size, 4, none⟩ = some (.int .i64 0) := zc 4
        have z5 : w8.cell? ⟨w.heap.size, 5, none⟩ = some (.slice none 0 0) := zc 5
        have y0 := zf 0
        have y1 := zf 1
        have y2 := zf 2
        have y3 := zf 3
        have y4 := zf 4
        have y5 := zf 5
        have hrd2 := Lib.hid hrd
        clear zc zf hrd
        go_wp2_with fail
        obtain ⟨V, hV, v0, v1, v2, v3, v4, v5, hs⟩ := box_six (.string (less_8 c).name) (.int .i64 (less_8 c).params) (.int .i64 (less_8 c).results) (.int .i64 (less_8 c).vars) (.int .i64 (less_8 c).slots) (.slice (some ⟨gB, 0, none⟩) (less_8 c).blocks.length cB) z0 z1 z2 z3 z4 z5
        rw [← hV]
        refine bodyPost_ret (v := .agg #[.string (less_8 c).name, .int .i64 (less_8 c).params, .int .i64 (less_8 c).results, .int .i64 (less_8 c).vars, .int .i64 (less_8 c).slots, .slice (some ⟨gB, 0, none⟩) (less_8 c).blocks.length cB]) (by simp [results, Try.results17, go_sem, v0, v1, v2, v3, v4, v5]) rfl ?_
        unfold less_C
        rw [← HC.out]
        exact code_post w (HW0.out ▸ H8.out) hs hrd2.out
end Go.Proofs.Ytaomlfbcfmmhlaa
