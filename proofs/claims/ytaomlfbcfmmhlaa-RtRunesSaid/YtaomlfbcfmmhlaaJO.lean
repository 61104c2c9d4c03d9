/-
  Texts joined: RtPut.
-/
import Derived.Test.YtaomlfbcfmmhlaaJH
import Derived.Test.YtaomlfbcfmmhlaaJI

/-
  rt's put, walked (printed by wip/gen_rtfn.py).
-/
namespace Go.Proofs.Ytaomlfbcfmmhlaa
open Go.RowKit Go.Pst
set_option linter.unusedVariables false
set_option linter.unusedSimpArgs false

def put_1 (c : PCode) : PCode := invokeF c 0 ⟨#[95, 102, 105, 110, 100]⟩ [0, 1]
def put_2 (c : PCode) : PCode := konstF (put_1 c) 0 1
def put_3 (c : PCode) : PCode := konstF (put_2 c) 0 0
def put_4 (c : PCode) : PCode := mathF (put_3 c) 0 ⟨#[62, 61]⟩ c.vars (put_2 c).vars
def put_5 (c : PCode) : PCode := whenOut (put1_F (whenIn (put_4 c) 0 (put_3 c).vars) (put_4 c).blocks.length c.vars) (put1_K (whenIn (put_4 c) 0 (put_3 c).vars) (put_4 c).blocks.length c.vars) (((put_4 c).blocks.length : Int) + 1)
def put_6 (c : PCode) : PCode := loadF (put_5 c) ((put_4 c).blocks.length + 1) 0 0
def put_7 (c : PCode) : PCode := loadF (put_6 c) ((put_4 c).blocks.length + 1) 0 1
def put_8 (c : PCode) : PCode := mathF (put_7 c) ((put_4 c).blocks.length + 1) ⟨#[61, 61]⟩ (put_5 c).vars (put_6 c).vars
def put_9 (c : PCode) : PCode := whenOut (put2_F (whenIn (put_8 c) ((put_4 c).blocks.length + 1) (put_7 c).vars) (put_8 c).blocks.length (put_6 c).vars (put_5 c).vars) (put2_K (whenIn (put_8 c) ((put_4 c).blocks.length + 1) (put_7 c).vars) (put_8 c).blocks.length (put_6 c).vars (put_5 c).vars) (((put_8 c).blocks.length : Int) + 1)
def put_10 (c : PCode) : PCode := loadF (put_9 c) ((put_8 c).blocks.length + 1) 0 2
def put_11 (c : PCode) : PCode := konstF (put_10 c) ((put_8 c).blocks.length + 1) 3
def put_12 (c : PCode) : PCode := mathF (put_11 c) ((put_8 c).blocks.length + 1) ⟨#[42]⟩ (put_5 c).vars (put_10 c).vars
def put_13 (c : PCode) : PCode := mathF (put_12 c) ((put_8 c).blocks.length + 1) ⟨#[43]⟩ (put_9 c).vars (put_11 c).vars
def put_14 (c : PCode) : PCode := storeF (put_13 c) ((put_8 c).blocks.length + 1) (put_12 c).vars 0 1
def put_15 (c : PCode) : PCode := storeF (put_14 c) ((put_8 c).blocks.length + 1) (put_12 c).vars 1 2
def put_16 (c : PCode) : PCode := storeF (put_15 c) ((put_8 c).blocks.length + 1) (put_12 c).vars 2 (put_1 c).vars
def put_17 (c : PCode) : PCode := mathF (put_16 c) ((put_8 c).blocks.length + 1) ⟨#[43]⟩ (put_5 c).vars (put_1 c).vars
def put_18 (c : PCode) : PCode := storeF (put_17 c) ((put_8 c).blocks.length + 1) 0 0 (put_16 c).vars
def put_19 (c : PCode) : PCode := loadF (put_18 c) ((put_8 c).blocks.length + 1) 0 3
def put_20 (c : PCode) : PCode := mathF (put_19 c) ((put_8 c).blocks.length + 1) ⟨#[43]⟩ (put_18 c).vars (put_1 c).vars
def put_21 (c : PCode) : PCode := storeF (put_20 c) ((put_8 c).blocks.length + 1) 0 3 (put_19 c).vars
def put_22 (c : PCode) : PCode := backF (put_21 c) ((put_8 c).blocks.length + 1) []
def put_C : PCode := put_22 (beginF ⟨#[95, 112, 117, 116]⟩ 3 0)
set_option maxHeartbeats 16000000 in
theorem rt_put_any (w : World) : Calls Try.prog 22 #[] w (CodePost w put_C) := by
  have hz_0 : InI 0 := ini rfl
  have hz_1 : InI 1 := ini rfl
  have hz_2 : InI 2 := ini rfl
  have hz_3 : InI 3 := ini rfl
  go_enter Try.func22, Try.ntmps22
  go_wp2_with fail
  refine (start_any ⟨#[95, 112, 117, 116]⟩ 3 0 (by decide) (by decide) (by decide) _).mono ?_
  rintro e w0 ⟨bm, rfl, e00⟩
  have e0 : Env (w.heap.size + 1) (w.alloc (.cells zeroCode 31)) bm [] 900000 (beginF ⟨#[95, 112, 117, 116]⟩ 3 0) 0 w0 := by
    rw [World.size_alloc] at e00; exact e00
  clear e00
  obtain ⟨n, hn⟩ : ∃ n, 900000 = n + 82 := ⟨900000 - 82, by decide⟩
  obtain ⟨c, hc⟩ : ∃ c, c = beginF ⟨#[95, 112, 117, 116]⟩ 3 0 := ⟨_, rfl⟩
  rw [← hc, hn] at e0
  have HC := Lib.hid hc
  clear hn hc
  obtain ⟨W0, hW0⟩ : ∃ W, W = w.alloc (.cells zeroCode 31) := ⟨_, rfl⟩
  rw [← hW0] at e0
  have HW0 := Lib.hid hW0
  clear hW0
  have b0 := e0.box (.pointer (some ⟨bm, 0, none⟩)) 54
  obtain ⟨l1, hl1⟩ : ∃ l, l = (w0.heap.size, 0, Value.pointer (some ⟨bm, 0, none⟩)) :: [] := ⟨_, rfl⟩
  rw [← hl1] at b0
  obtain ⟨V0, hV0⟩ : ∃ W, W = w0.alloc (.cells #[.pointer (some ⟨bm, 0, none⟩)] 54) := ⟨_, rfl⟩
  rw [← hV0] at b0
  have m_m : (w0.heap.size, 0, Value.pointer (some ⟨bm, 0, none⟩)) ∈ l1 := by rw [hl1]; exact List.mem_cons_self
  have HV0 := Lib.hid hV0
  have H0 := Lib.hid b0
  clear hV0 hl1 b0
  clear e0
  have q_m := H0.out.cell m_m
  rw [HV0.out] at q_m
  go_wp2_with fail
  rw [← HV0.out]
  try rw [show w0.heap.size + 1 = V0.heap.size from by rw [HV0.out, World.size_alloc]]
  clear q_m
  refine (invoke_any (by decide) H0.out ((Below.refl _ _).alloc (Nat.le_refl _) _) (rInts_all [0, 1] (Nat.le_refl _) (lens rfl) (ini2 hz_0 hz_1) (new_one _ _))).mono ?_
  rintro e w1 ⟨ga1, gp1, rfl, gc1, e10⟩
  have e1 : Env (w.heap.size + 1) W0 bm l1 (n + 80) (put_1 c) 0 w1 := e10
  have hr1 := InI.vars H0.out
  have b1 := e1.box (.int .i64 c.vars) 3
  obtain ⟨l2, hl2⟩ : ∃ l, l = (w1.heap.size, 0, Value.int .i64 c.vars) :: l1 := ⟨_, rfl⟩
  rw [← hl2] at b1
  obtain ⟨V1, hV1⟩ : ∃ W, W = w1.alloc (.cells #[.int .i64 c.vars] 3) := ⟨_, rfl⟩
  rw [← hV1] at b1
  have m_m := (show _ ∈ l2 from hl2 ▸ List.mem_cons_of_mem _ m_m)
  have m_at_ : (w1.heap.size, 0, Value.int .i64 c.vars) ∈ l2 := by rw [hl2]; exact List.mem_cons_self
  have HV1 := Lib.hid hV1
  have H1 := Lib.hid b1
  clear hV1 hl2 b1
  clear e1 e10
  have q_m := H1.out.cell m_m
  have q_at_ := H1.out.cell m_at_
  rw [HV1.out] at q_m q_at_
  go_wp2_with fail
  rw [← HV1.out]
  try rw [show w1.heap.size + 1 = V1.heap.size from by rw [HV1.out, World.size_alloc]]
  clear q_m q_at_
  clear gc1
  refine (konst_any 1 hz_1 H1.out).mono ?_
  rintro e w2 ⟨rfl, e20⟩
  have e2 : Env (w.heap.size + 1) W0 bm l2 (n + 78) (put_2 c) 0 w2 := e20
  have hr2 := InI.vars H1.out
  have H2 := Lib.hid e2
  clear e2 e20
  have hS := keep2 m_m m_at_ H2.out.x
  go_wp2_with fail
  go_region_held3 (fun w' => (w'.cell? ⟨w0.heap.size, 0, none⟩ = some (.pointer (some ⟨bm, 0, none⟩)) ∧ w'.cell? ⟨w1.heap.size, 0, none⟩ = some (.int .i64 c.vars)) ∧ EnvX (w.heap.size + 1) W0 bm l2 w')
    (first | exact hS | exact keep2 m_m m_at_ H2.out.x.drew | exact keep2 m_m m_at_ (Env.x (by assumption)) | exact keep2 m_m m_at_ (EnvX.drew (And.right (by assumption))) | exact keep2 m_m m_at_ (EnvX.alloc (Env.x (by assumption)) _) | exact keep2 m_m m_at_ (EnvX.alloc (And.right (by assumption)) _))
    (first | (go_at_call 35; (refine (konst_any 0 hz_0 H2.out.drew).mono ?_); rintro e w3 ⟨rfl, e30⟩; have e3 : Env (w.heap.size + 1) W0 bm l2 (n + 76) (put_3 c) 0 w3 := e30; clear e30) | (go_at_call 31; (refine (math_any ⟨#[62, 61]⟩ c.vars (put_2 c).vars hr1 (InI.vars H2.out) (by decide) e3).mono ?_); rintro e w4 ⟨rfl, e40⟩; have e4 : Env (w.heap.size + 1) W0 bm l2 (n + 74) (put_4 c) 0 w4 := e40; clear e40) | (go_at_call 36; (refine (when_any (ba := #[]) (m := n + 71) (n := n + 68) (c3 := put1_F (whenIn (put_4 c) 0 (put_3 c).vars) (put_4 c).blocks.length c.vars) (k3 := put1_K (whenIn (put_4 c) 0 (put_3 c).vars) (put_4 c).blocks.length c.vars) (InI.vars e3) enters_put1 e4 (fun w2 e2 => by exact put1_any hr1 m_m m_at_ e2) (by rw [put1_len, whenIn_len]; omega)).mono ?_); rintro e w5 ⟨rfl, e50⟩; have e5 : Env (w.heap.size + 1) W0 bm l2 (n + 68) (put_5 c) ((put_4 c).blocks.length + 1) w5 := e50; clear e50))
  all_goals
    have hr3 := InI.vars H2.out
    have hr4 := InI.vars e3
    have H5 := Lib.hid e5
    clear hS
    have q_m := H5.out.cell m_m
    go_wp2_with fail
    clear q_m
    have hd0 := Env.drew H5.out
    have hS0 := hd0.cell m_m
    refine cut2 _ (fun b1 b2 w' => InI (put_5 c).vars ∧ InI (put_6 c).vars ∧ Env (w.heap.size + 1) W0 bm ((b2, 0, Value.int .i64 (put_6 c).vars) :: (b1, 0, Value.int .i64 (put_5 c).vars) :: l2) (n + 64) (put_7 c) ((put_4 c).blocks.length + 1) w') (by
      refine wp_region_held_drew (S := fun w' => w'.cell? ⟨w0.heap.size, 0, none⟩ = some (.pointer (some ⟨bm, 0, none⟩))) (by kernel_rfl) hS0 (fun hHeld => ?_)
      refine wpAnyH_take (i := 0) (v := ?_) rfl (by kernel_rfl) (by kernel_rfl) (by kernel_rfl) (fun _ _ _ h => h) (Or.inl ⟨by rfl, ?_⟩) (by assumption) ?_
      rotate_left
      · intro w hSw; (try dsimp only at hSw); go_simp; (first | done | with_reducible rfl)
      try simp only [Act.put, List.setIfInBounds_toArray, List.set_cons_zero, List.set_cons_succ]
      refine wpAnyH_take (i := 2) (v := ?_) rfl (by kernel_rfl) (by kernel_rfl) (by kernel_rfl) (fun _ _ _ h => h) (Or.inl ⟨by rfl, ?_⟩) (by assumption) ?_
      rotate_left
      · intro w hSw; (try dsimp only at hSw); go_simp; (first | done | with_reducible rfl)
      try simp only [Act.put, List.setIfInBounds_toArray, List.set_cons_zero, List.set_cons_succ]
      refine wpAnyH_ready (rs := [1, 4, 5]) (by kernel_rfl) (by simp) ?_
      refine AllReadyH.cons rfl (fun K hK => ?_) (AllReadyH.cons rfl (fun K hK => ?_) (AllReadyH.cons rfl (fun K hK => ?_) AllReadyH.nil))
      · go_simp
        refine (load_any 0 0 hz_0 hz_0 hd0).mono ?_
        rintro e v0 ⟨rfl, E0_⟩
        have E0 : Env (w.heap.size + 1) W0 bm _ (n + 66) (put_6 c) ((put_4 c).blocks.length + 1) v0 := E0_
        clear E0_
        try go_wp2_with fail
        refine hK.out _ _ (E0.cell m_m) (fun hHeld => ?_)
        clear hK K
        try simp only [Act.put, List.setIfInBounds_toArray, List.set_cons_zero, List.set_cons_succ]
        have hr6 := InI.vars hd0
        refine wpAnyH_ready (rs := [3, 4, 5]) (by kernel_rfl) (by simp) ?_
        refine AllReadyH.cons rfl (fun K hK => ?_) (AllReadyH.cons rfl (fun K hK => ?_) (AllReadyH.cons rfl (fun K hK => ?_) AllReadyH.nil))
        · go_simp
          refine (load_any 0 1 hz_0 hz_1 E0).mono ?_
          rintro e v1 ⟨rfl, E1_⟩
          have E1 : Env (w.heap.size + 1) W0 bm _ (n + 64) (put_7 c) ((put_4 c).blocks.length + 1) v1 := E1_
          clear E1_
          try go_wp2_with fail
          refine hK.out _ _ (E1.cell m_m) (fun hHeld => ?_)
          clear hK K
          try simp only [Act.put, List.setIfInBounds_toArray, List.set_cons_zero, List.set_cons_succ]
          have hr7 := InI.vars E0
          refine wpAnyH_ready (rs := [4, 5]) (by kernel_rfl) (by simp) ?_
          refine AllReadyH.cons rfl (fun K hK => ?_) (AllReadyH.cons rfl (fun K hK => ?_) AllReadyH.nil)
          · have f1 := Env.base E1
            have g1 : ∀ p ∈ l2, p.1 < _ := fun p hp => Env.lt E1 hp
            have E2 := Env.box E1 (.int .i64 0) 3
            go_simp
            try simp only [World.size_drew] at f1 g1 E2
            obtain ⟨v2, hv2⟩ : ∃ V, V = World.alloc v1 (.cells #[.int .i64 0] 3) := ⟨_, rfl⟩
            rw [← hv2] at E2 ⊢
            clear hv2
            generalize v1.heap.size = b1 at f1 g1 E2 ⊢
            refine hK.out _ _ (E2.cell (List.mem_cons_of_mem _ m_m)) (fun hHeld => ?_)
            clear hK K
            try simp only [Act.put, List.setIfInBounds_toArray, List.set_cons_zero, List.set_cons_succ]
            refine wpAnyH_ready (rs := [5]) (by kernel_rfl) (by simp) ?_
            refine AllReadyH.cons rfl (fun K hK => ?_) AllReadyH.nil
            have f2 := Env.base E2
            have g2 : ∀ p ∈ l2, p.1 < _ := fun p hp => Env.lt E2 (List.mem_cons_of_mem _ hp)
            have gne := Env.lt E2 List.mem_cons_self
            have E3 := Env.box E2 (.int .i64 0) 3
            go_simp
            try simp only [World.size_drew] at f2 g2 E3 gne
            obtain ⟨v3, hv3⟩ : ∃ V, V = World.alloc v2 (.cells #[.int .i64 0] 3) := ⟨_, rfl⟩
            rw [← hv3] at E3 ⊢
            clear hv3
            generalize v2.heap.size = b2 at f2 g2 E3 gne ⊢
            refine hK.out _ _ (E3.cell (List.mem_cons_of_mem _ (List.mem_cons_of_mem _ m_m))) (fun hHeld => ?_)
            clear hK K
            try simp only [Act.put, List.setIfInBounds_toArray, List.set_cons_zero, List.set_cons_succ]
            refine wpAnyH_ready (rs := [6]) (by kernel_rfl) (by simp) ?_
            refine AllReadyH.cons rfl (fun K hK => ?_) AllReadyH.nil
            have qc := Env.cell E3 (List.mem_cons_of_mem _ List.mem_cons_self)
            have qz := Env.frozen E3 (List.mem_cons_of_mem _ List.mem_cons_self)
            go_simp
            clear qc qz
            have E4 := Env.poke (v' := .int .i64 (put_5 c).vars) (l' := _ :: l2) E3 (List.mem_cons_of_mem _ List.mem_cons_self) f1 (fun p hp => by rcases List.mem_cons.1 hp with rfl | hp; exact ⟨List.mem_cons_self, by show b2 ≠ b1; omega⟩; exact ⟨List.mem_cons_of_mem _ (List.mem_cons_of_mem _ hp), Nat.ne_of_lt (g1 p hp)⟩)
            obtain ⟨v4, hv4⟩ : ∃ V, V = World.setCell v3 ⟨b1, 0, none⟩ (.int .i64 (put_5 c).vars) := ⟨_, rfl⟩
            rw [← hv4] at E4 ⊢
            clear hv4
            refine hK.out _ _ (E4.cell (List.mem_cons_of_mem _ (List.mem_cons_of_mem _ m_m))) (fun hHeld => ?_)
            clear hK K
            try simp only [Act.put, List.setIfInBounds_toArray, List.set_cons_zero, List.set_cons_succ]
            refine wpAnyH_ready (rs := [7]) (by kernel_rfl) (by simp) ?_
            refine AllReadyH.cons rfl (fun K hK => ?_) AllReadyH.nil
            have qc := Env.cell E4 (List.mem_cons_of_mem _ List.mem_cons_self)
            have qz := Env.frozen E4 (List.mem_cons_of_mem _ List.mem_cons_self)
            go_simp
            clear qc qz
            have E5 := Env.poke (v' := .int .i64 (put_6 c).vars) (l' := _ :: l2) E4 (List.mem_cons_of_mem _ List.mem_cons_self) f2 (fun p hp => by rcases List.mem_cons.1 hp with rfl | hp; exact ⟨List.mem_cons_self, by show b1 ≠ b2; omega⟩; exact ⟨List.mem_cons_of_mem _ (List.mem_cons_of_mem _ hp), Nat.ne_of_lt (g2 p hp)⟩)
            obtain ⟨v5, hv5⟩ : ∃ V, V = World.setCell v4 ⟨b2, 0, none⟩ (.int .i64 (put_6 c).vars) := ⟨_, rfl⟩
            rw [← hv5] at E5 ⊢
            clear hv5
            refine hK.out _ _ (E5.cell (List.mem_cons_of_mem _ (List.mem_cons_of_mem _ m_m))) (fun hHeld => ?_)
            clear hK K
            try simp only [Act.put, List.setIfInBounds_toArray, List.set_cons_zero, List.set_cons_succ]
            refine wpAnyH_done (by kernel_rfl) ?_ _
            exact ⟨b1, b2, rfl, hr6, hr7, E5⟩
          · have f2 := Env.base E1
            have g2 : ∀ p ∈ l2, p.1 < _ := fun p hp => Env.lt E1 hp
            have E2 := Env.box E1 (.int .i64 0) 3
            go_simp
            try simp only [World.size_drew] at f2 g2 E2
            obtain ⟨v2, hv2⟩ : ∃ V, V = World.alloc v1 (.cells #[.int .i64 0] 3) := ⟨_, rfl⟩
            rw [← hv2] at E2 ⊢
            clear hv2
            generalize v1.heap.size = b2 at f2 g2 E2 ⊢
            refine hK.out _ _ (E2.cell (List.mem_cons_of_mem _ m_m)) (fun hHeld => ?_)
            clear hK K
            try simp only [Act.put, List.setIfInBounds_toArray, List.set_cons_zero, List.set_cons_succ]
            refine wpAnyH_ready (rs := [4]) (by kernel_rfl) (by simp) ?_
            refine AllReadyH.cons rfl (fun K hK => ?_) AllReadyH.nil
            have f1 := Env.base E2
            have g1 : ∀ p ∈ l2, p.1 < _ := fun p hp => Env.lt E2 (List.mem_cons_of_mem _ hp)
            have gne := Env.lt E2 List.mem_cons_self
            have E3 := Env.box E2 (.int .i64 0) 3
            go_simp
            try simp only [World.size_drew] at f1 g1 E3 gne
            obtain ⟨v3, hv3⟩ : ∃ V, V = World.alloc v2 (.cells #[.int .i64 0] 3) := ⟨_, rfl⟩
            rw [← hv3] at E3 ⊢
            clear hv3
            generalize v2.heap.size = b1 at f1 g1 E3 gne ⊢
            refine hK.out _ _ (E3.cell (List.mem_cons_of_mem _ (List.mem_cons_of_mem _ m_m))) (fun hHeld => ?_)
            clear hK K
            try simp only [Act.put, List.setIfInBounds_toArray, List.set_cons_zero, List.set_cons_succ]
            refine wpAnyH_ready (rs := [6]) (by kernel_rfl) (by simp) ?_
            refine AllReadyH.cons rfl (fun K hK => ?_) AllReadyH.nil
            have qc := Env.cell E3 List.mem_cons_self
            have qz := Env.frozen E3 List.mem_cons_self
            go_simp
            clear qc qz
            have E4 := Env.poke (v' := .int .i64 (put_5 c).vars) (l' := _ :: l2) E3 List.mem_cons_self f1 (fun p hp => by rcases List.mem_cons.1 hp with rfl | hp; exact ⟨(List.mem_cons_of_mem _ List.mem_cons_self), by show b2 ≠ b1; omega⟩; exact ⟨List.mem_cons_of_mem _ (List.mem_cons_of_mem _ hp), Nat.ne_of_lt (g1 p hp)⟩)
            obtain ⟨v4, hv4⟩ : ∃ V, V = World.setCell v3 ⟨b1, 0, none⟩ (.int .i64 (put_5 c).vars) := ⟨_, rfl⟩
            rw [← hv4] at E4 ⊢
            clear hv4
            refine hK.out _ _ (E4.cell (List.mem_cons_of_mem _ (List.mem_cons_of_mem _ m_m))) (fun hHeld => ?_)
            clear hK K
            try simp only [Act.put, List.setIfInBounds_toArray, List.set_cons_zero, List.set_cons_succ]
            refine wpAnyH_ready (rs := [7]) (by kernel_rfl) (by simp) ?_
            refine AllReadyH.cons rfl (fun K hK => ?_) AllReadyH.nil
            have qc := Env.cell E4 (List.mem_cons_of_mem _ List.mem_cons_self)
            have qz := Env.frozen E4 (List.mem_cons_of_mem _ List.mem_cons_self)
            go_simp
            clear qc qz
            have E5 := Env.poke (v' := .int .i64 (put_6 c).vars) (l' := _ :: l2) E4 (List.mem_cons_of_mem _ List.mem_cons_self) f2 (fun p hp => by rcases List.mem_cons.1 hp with rfl | hp; exact ⟨List.mem_cons_self, by show b1 ≠ b2; omega⟩; exact ⟨List.mem_cons_of_mem _ (List.mem_cons_of_mem _ hp), Nat.ne_of_lt (g2 p hp)⟩)
            obtain ⟨v5, hv5⟩ : ∃ V, V = World.setCell v4 ⟨b2, 0, none⟩ (.int .i64 (put_6 c).vars) := ⟨_, rfl⟩
            rw [← hv5] at E5 ⊢
            clear hv5
            refine hK.out _ _ (E5.cell (List.mem_cons_of_mem _ (List.mem_cons_of_mem _ m_m))) (fun hHeld => ?_)
            clear hK K
            try simp only [Act.put, List.setIfInBounds_toArray, List.set_cons_zero, List.set_cons_succ]
            refine wpAnyH_done (by kernel_rfl) ?_ _
            exact ⟨b1, b2, rfl, hr6, hr7, E5⟩
        · have f1 := Env.base E0
          have g1 : ∀ p ∈ l2, p.1 < _ := fun p hp => Env.lt E0 hp
          have E1 := Env.box E0 (.int .i64 0) 3
          go_simp
          try simp only [World.size_drew] at f1 g1 E1
          obtain ⟨v1, hv1⟩ : ∃ V, V = World.alloc v0 (.cells #[.int .i64 0] 3) := ⟨_, rfl⟩
          rw [← hv1] at E1 ⊢
          clear hv1
          generalize v0.heap.size = b1 at f1 g1 E1 ⊢
          refine hK.out _ _ (E1.cell (List.mem_cons_of_mem _ m_m)) (fun hHeld => ?_)
          clear hK K
          try simp only [Act.put, List.setIfInBounds_toArray, List.set_cons_zero, List.set_cons_succ]
          refine wpAnyH_ready (rs := [3, 5]) (by kernel_rfl) (by simp) ?_
          refine AllReadyH.cons rfl (fun K hK => ?_) (AllReadyH.cons rfl (fun K hK => ?_) AllReadyH.nil)
          · go_simp
            refine (load_any 0 1 hz_0 hz_1 E1).mono ?_
            rintro e v2 ⟨rfl, E2_⟩
            have E2 : Env (w.heap.size + 1) W0 bm _ (n + 64) (put_7 c) ((put_4 c).blocks.length + 1) v2 := E2_
            clear E2_
            try go_wp2_with fail
            refine hK.out _ _ (E2.cell (List.mem_cons_of_mem _ m_m)) (fun hHeld => ?_)
            clear hK K
            try simp only [Act.put, List.setIfInBounds_toArray, List.set_cons_zero, List.set_cons_succ]
            have hr7 := InI.vars E1
            refine wpAnyH_ready (rs := [5]) (by kernel_rfl) (by simp) ?_
            refine AllReadyH.cons rfl (fun K hK => ?_) AllReadyH.nil
            have f2 := Env.base E2
            have g2 : ∀ p ∈ l2, p.1 < _ := fun p hp => Env.lt E2 (List.mem_cons_of_mem _ hp)
            have gne := Env.lt E2 List.mem_cons_self
            have E3 := Env.box E2 (.int .i64 0) 3
            go_simp
            try simp only [World.size_drew] at f2 g2 E3 gne
            obtain ⟨v3, hv3⟩ : ∃ V, V = World.alloc v2 (.cells #[.int .i64 0] 3) := ⟨_, rfl⟩
            rw [← hv3] at E3 ⊢
            clear hv3
            generalize v2.heap.size = b2 at f2 g2 E3 gne ⊢
            refine hK.out _ _ (E3.cell (List.mem_cons_of_mem _ (List.mem_cons_of_mem _ m_m))) (fun hHeld => ?_)
            clear hK K
            try simp only [Act.put, List.setIfInBounds_toArray, List.set_cons_zero, List.set_cons_succ]
            refine wpAnyH_ready (rs := [6]) (by kernel_rfl) (by simp) ?_
            refine AllReadyH.cons rfl (fun K hK => ?_) AllReadyH.nil
            have qc := Env.cell E3 (List.mem_cons_of_mem _ List.mem_cons_self)
            have qz := Env.frozen E3 (List.mem_cons_of_mem _ List.mem_cons_self)
            go_simp
            clear qc qz
            have E4 := Env.poke (v' := .int .i64 (put_5 c).vars) (l' := _ :: l2) E3 (List.mem_cons_of_mem _ List.mem_cons_self) f1 (fun p hp => by rcases List.mem_cons.1 hp with rfl | hp; exact ⟨List.mem_cons_self, by show b2 ≠ b1; omega⟩; exact ⟨List.mem_cons_of_mem _ (List.mem_cons_of_mem _ hp), Nat.ne_of_lt (g1 p hp)⟩)
            obtain ⟨v4, hv4⟩ : ∃ V, V = World.setCell v3 ⟨b1, 0, none⟩ (.int .i64 (put_5 c).vars) := ⟨_, rfl⟩
            rw [← hv4] at E4 ⊢
            clear hv4
            refine hK.out _ _ (E4.cell (List.mem_cons_of_mem _ (List.mem_cons_of_mem _ m_m))) (fun hHeld => ?_)
            clear hK K
            try simp only [Act.put, List.setIfInBounds_toArray, List.set_cons_zero, List.set_cons_succ]
            refine wpAnyH_ready (rs := [7]) (by kernel_rfl) (by simp) ?_
            refine AllReadyH.cons rfl (fun K hK => ?_) AllReadyH.nil
            have qc := Env.cell E4 (List.mem_cons_of_mem _ List.mem_cons_self)
            have qz := Env.frozen E4 (List.mem_cons_of_mem _ List.mem_cons_self)
            go_simp
            clear qc qz
            have E5 := Env.poke (v' := .int .i64 (put_6 c).vars) (l' := _ :: l2) E4 (List.mem_cons_of_mem _ List.mem_cons_self) f2 (fun p hp => by rcases List.mem_cons.1 hp with rfl | hp; exact ⟨List.mem_cons_self, by show b1 ≠ b2; omega⟩; exact ⟨List.mem_cons_of_mem _ (List.mem_cons_of_mem _ hp), Nat.ne_of_lt (g2 p hp)⟩)
            obtain ⟨v5, hv5⟩ : ∃ V, V = World.setCell v4 ⟨b2, 0, none⟩ (.int .i64 (put_6 c).vars) := ⟨_, rfl⟩
            rw [← hv5] at E5 ⊢
            clear hv5
            refine hK.out _ _ (E5.cell (List.mem_cons_of_mem _ (List.mem_cons_of_mem _ m_m))) (fun hHeld => ?_)
            clear hK K
            try simp only [Act.put, List.setIfInBounds_toArray, List.set_cons_zero, List.set_cons_succ]
            refine wpAnyH_done (by kernel_rfl) ?_ _
            exact ⟨b1, b2, rfl, hr6, hr7, E5⟩
          · have f2 := Env.base E1
            have g2 : ∀ p ∈ l2, p.1 < _ := fun p hp => Env.lt E1 (List.mem_cons_of_mem _ hp)
            have gne := Env.lt E1 List.mem_cons_self
            have E2 := Env.box E1 (.int .i64 0) 3
            go_simp
            try simp only [World.size_drew] at f2 g2 E2 gne
            obtain ⟨v2, hv2⟩ : ∃ V, V = World.alloc v1 (.cells #[.int .i64 0] 3) := ⟨_, rfl⟩
            rw [← hv2] at E2 ⊢
            clear hv2
            generalize v1.heap.size = b2 at f2 g2 E2 gne ⊢
            refine hK.out _ _ (E2.cell (List.mem_cons_of_mem _ (List.mem_cons_of_mem _ m_m))) (fun hHeld => ?_)
            clear hK K
            try simp only [Act.put, List.setIfInBounds_toArray, List.set_cons_zero, List.set_cons_succ]
            refine wpAnyH_ready (rs := [3]) (by kernel_rfl) (by simp) ?_
            refine AllReadyH.cons rfl (fun K hK => ?_) AllReadyH.nil
            go_simp
            refine (load_any 0 1 hz_0 hz_1 E2).mono ?_
            rintro e v3 ⟨rfl, E3_⟩
            have E3 : Env (w.heap.size + 1) W0 bm _ (n + 64) (put_7 c) ((put_4 c).blocks.length + 1) v3 := E3_
            clear E3_
            try go_wp2_with fail
            refine hK.out _ _ (E3.cell (List.mem_cons_of_mem _ (List.mem_cons_of_mem _ m_m))) (fun hHeld => ?_)
            clear hK K
            try simp only [Act.put, List.setIfInBounds_toArray, List.set_cons_zero, List.set_cons_succ]
            have hr7 := InI.vars E2
            refine wpAnyH_ready (rs := [6]) (by kernel_rfl) (by simp) ?_
            refine AllReadyH.cons rfl (fun K hK => ?_) AllReadyH.nil
            have qc := Env.cell E3 (List.mem_cons_of_mem _ List.mem_cons_self)
            have qz := Env.frozen E3 (List.mem_cons_of_mem _ List.mem_cons_self)
            go_simp
            clear qc qz
            have E4 := Env.poke (v' := .int .i64 (put_5 c).vars) (l' := _ :: l2) E3 (List.mem_cons_of_mem _ List.mem_cons_self) f1 (fun p hp => by rcases List.mem_cons.1 hp with rfl | hp; exact ⟨List.mem_cons_self, by show b2 ≠ b1; omega⟩; exact ⟨List.mem_cons_of_mem _ (List.mem_cons_of_mem _ hp), Nat.ne_of_lt (g1 p hp)⟩)
            obtain ⟨v4, hv4⟩ : ∃ V, V = World.setCell v3 ⟨b1, 0, none⟩ (.int .i64 (put_5 c).vars) := ⟨_, rfl⟩
            rw [← hv4] at E4 ⊢
            clear hv4
            refine hK.out _ _ (E4.cell (List.mem_cons_of_mem _ (List.mem_cons_of_mem _ m_m))) (fun hHeld => ?_)
            clear hK K
            try simp only [Act.put, List.setIfInBounds_toArray, List.set_cons_zero, List.set_cons_succ]
            refine wpAnyH_ready (rs := [7]) (by kernel_rfl) (by simp) ?_
            refine AllReadyH.cons rfl (fun K hK => ?_) AllReadyH.nil
            have qc := Env.cell E4 (List.mem_cons_of_mem _ List.mem_cons_self)
            have qz := Env.frozen E4 (List.mem_cons_of_mem _ List.mem_cons_self)
            go_simp
            clear qc qz
            have E5 := Env.poke (v' := .int .i64 (put_6 c).vars) (l' := _ :: l2) E4 (List.mem_cons_of_mem _ List.mem_cons_self) f2 (fun p hp => by rcases List.mem_cons.1 hp with rfl | hp; exact ⟨List.mem_cons_self, by show b1 ≠ b2; omega⟩; exact ⟨List.mem_cons_of_mem _ (List.mem_cons_of_mem _ hp), Nat.ne_of_lt (g2 p hp)⟩)
            obtain ⟨v5, hv5⟩ : ∃ V, V = World.setCell v4 ⟨b2, 0, none⟩ (.int .i64 (put_6 c).vars) := ⟨_, rfl⟩
            rw [← hv5] at E5 ⊢
            clear hv5
            refine hK.out _ _ (E5.cell (List.mem_cons_of_mem _ (List.mem_cons_of_mem _ m_m))) (fun hHeld => ?_)
            clear hK K
            try simp only [Act.put, List.setIfInBounds_toArray, List.set_cons_zero, List.set_cons_succ]
            refine wpAnyH_done (by kernel_rfl) ?_ _
            exact ⟨b1, b2, rfl, hr6, hr7, E5⟩
        · have f2 := Env.base E0
          have g2 : ∀ p ∈ l2, p.1 < _ := fun p hp => Env.lt E0 hp
          have E1 := Env.box E0 (.int .i64 0) 3
          go_simp
          try simp only [World.size_drew] at f2 g2 E1
          obtain ⟨v1, hv1⟩ : ∃ V, V = World.alloc v0 (.cells #[.int .i64 0] 3) := ⟨_, rfl⟩
          rw [← hv1] at E1 ⊢
          clear hv1
          generalize v0.heap.size = b2 at f2 g2 E1 ⊢
          refine hK.out _ _ (E1.cell (List.mem_cons_of_mem _ m_m)) (fun hHeld => ?_)
          clear hK K
          try simp only [Act.put, List.setIfInBounds_toArray, List.set_cons_zero, List.set_cons_succ]
          refine wpAnyH_ready (rs := [3, 4]) (by kernel_rfl) (by simp) ?_
          refine AllReadyH.cons rfl (fun K hK => ?_) (AllReadyH.cons rfl (fun K hK => ?_) AllReadyH.nil)
          · go_simp
            refine (load_any 0 1 hz_0 hz_1 E1).mono ?_
            rintro e v2 ⟨rfl, E2_⟩
            have E2 : Env (w.heap.size + 1) W0 bm _ (n + 64) (put_7 c) ((put_4 c).blocks.length + 1) v2 := E2_
            clear E2_
            try go_wp2_with fail
            refine hK.out _ _ (E2.cell (List.mem_cons_of_mem _ m_m)) (fun hHeld => ?_)
            clear hK K
            try simp only [Act.put, List.setIfInBounds_toArray, List.set_cons_zero, List.set_cons_succ]
            have hr7 := InI.vars E1
            refine wpAnyH_ready (rs := [4]) (by kernel_rfl) (by simp) ?_
            refine AllReadyH.cons rfl (fun K hK => ?_) AllReadyH.nil
            have f1 := Env.base E2
            have g1 : ∀ p ∈ l2, p.1 < _ := fun p hp => Env.lt E2 (List.mem_cons_of_mem _ hp)
            have gne := Env.lt E2 List.mem_cons_self
            have E3 := Env.box E2 (.int .i64 0) 3
            go_simp
            try simp only [World.size_drew] at f1 g1 E3 gne
            obtain ⟨v3, hv3⟩ : ∃ V, V = World.alloc v2 (.cells #[.int .i64 0] 3) := ⟨_, rfl⟩
            rw [← hv3] at E3 ⊢
            clear hv3
            generalize v2.heap.size = b1 at f1 g1 E3 gne ⊢
            refine hK.out _ _ (E3.cell (List.mem_cons_of_mem _ (List.mem_cons_of_mem _ m_m))) (fun hHeld => ?_)
            clear hK K
            try simp only [Act.put, List.setIfInBounds_toArray, List.set_cons_zero, List.set_cons_succ]
            refine wpAnyH_ready (rs := [6]) (by kernel_rfl) (by simp) ?_
            refine AllReadyH.cons rfl (fun K hK => ?_) AllReadyH.nil
            have qc := Env.cell E3 List.mem_cons_self
            have qz := Env.frozen E3 List.mem_cons_self
            go_simp
            clear qc qz
            have E4 := Env.poke (v' := .int .i64 (put_5 c).vars) (l' := _ :: l2) E3 List.mem_cons_self f1 (fun p hp => by rcases List.mem_cons.1 hp with rfl | hp; exact ⟨(List.mem_cons_of_mem _ List.mem_cons_self), by show b2 ≠ b1; omega⟩; exact ⟨List.mem_cons_of_mem _ (List.mem_cons_of_mem _ hp), Nat.ne_of_lt (g1 p hp)⟩)
            obtain ⟨v4, hv4⟩ : ∃ V, V = World.setCell v3 ⟨b1, 0, none⟩ (.int .i64 (put_5 c).vars) := ⟨_, rfl⟩
            rw [← hv4] at E4 ⊢
            clear hv4
            refine hK.out _ _ (E4.cell (List.mem_cons_of_mem _ (List.mem_cons_of_mem _ m_m))) (fun hHeld => ?_)
            clear hK K
            try simp only [Act.put, List.setIfInBounds_toArray, List.set_cons_zero, List.set_cons_succ]
            refine wpAnyH_ready (rs := [7]) (by kernel_rfl) (by simp) ?_
            refine AllReadyH.cons rfl (fun K hK => ?_) AllReadyH.nil
            have qc := Env.cell E4 (List.mem_cons_of_mem _ List.mem_cons_self)
            have qz := Env.frozen E4 (List.mem_cons_of_mem _ List.mem_cons_self)
            go_simp
            clear qc qz
            have E5 := Env.poke (v' := .int .i64 (put_6 c).vars) (l' := _ :: l2) E4 (List.mem_cons_of_mem _ List.mem_cons_self) f2 (fun p hp => by rcases List.mem_cons.1 hp with rfl | hp; exact ⟨List.mem_cons_self, by show b1 ≠ b2; omega⟩; exact ⟨List.mem_cons_of_mem _ (List.mem_cons_of_mem _ hp), Nat.ne_of_lt (g2 p hp)⟩)
            obtain ⟨v5, hv5⟩ : ∃ V, V = World.setCell v4 ⟨b2, 0, none⟩ (.int .i64 (put_6 c).vars) := ⟨_, rfl⟩
            rw [← hv5] at E5 ⊢
            clear hv5
            refine hK.out _ _ (E5.cell (List.mem_cons_of_mem _ (List.mem_cons_of_mem _ m_m))) (fun hHeld => ?_)
            clear hK K
            try simp only [Act.put, List.setIfInBounds_toArray, List.set_cons_zero, List.set_cons_succ]
            refine wpAnyH_done (by kernel_rfl) ?_ _
            exact ⟨b1, b2, rfl, hr6, hr7, E5⟩
          · have f1 := Env.base E1
            have g1 : ∀ p ∈ l2, p.1 < _ := fun p hp => Env.lt E1 (List.mem_cons_of_mem _ hp)
            have gne := Env.lt E1 List.mem_cons_self
            have E2 := Env.box E1 (.int .i64 0) 3
            go_simp
            try simp only [World.size_drew] at f1 g1 E2 gne
            obtain ⟨v2, hv2⟩ : ∃ V, V = World.alloc v1 (.cells #[.int .i64 0] 3) := ⟨_, rfl⟩
            rw [← hv2] at E2 ⊢
            clear hv2
            generalize v1.heap.size = b1 at f1 g1 E2 gne ⊢
            refine hK.out _ _ (E2.cell (List.mem_cons_of_mem _ (List.mem_cons_of_mem _ m_m))) (fun hHeld => ?_)
            clear hK K
            try simp only [Act.put, List.setIfInBounds_toArray, List.set_cons_zero, List.set_cons_succ]
            refine wpAnyH_ready (rs := [3]) (by kernel_rfl) (by simp) ?_
            refine AllReadyH.cons rfl (fun K hK => ?_) AllReadyH.nil
            go_simp
            refine (load_any 0 1 hz_0 hz_1 E2).mono ?_
            rintro e v3 ⟨rfl, E3_⟩
            have E3 : Env (w.heap.size + 1) W0 bm _ (n + 64) (put_7 c) ((put_4 c).blocks.length + 1) v3 := E3_
            clear E3_
            try go_wp2_with fail
            refine hK.out _ _ (E3.cell (List.mem_cons_of_mem _ (List.mem_cons_of_mem _ m_m))) (fun hHeld => ?_)
            clear hK K
            try simp only [Act.put, List.setIfInBounds_toArray, List.set_cons_zero, List.set_cons_succ]
            have hr7 := InI.vars E2
            refine wpAnyH_ready (rs := [6]) (by kernel_rfl) (by simp) ?_
            refine AllReadyH.cons rfl (fun K hK => ?_) AllReadyH.nil
            have qc := Env.cell E3 List.mem_cons_self
            have qz := Env.frozen E3 List.mem_cons_self
            go_simp
            clear qc qz
            have E4 := Env.poke (v' := .int .i64 (put_5 c).vars) (l' := _ :: l2) E3 List.mem_cons_self f1 (fun p hp => by rcases List.mem_cons.1 hp with rfl | hp; exact ⟨(List.mem_cons_of_mem _ List.mem_cons_self), by show b2 ≠ b1; omega⟩; exact ⟨List.mem_cons_of_mem _ (List.mem_cons_of_mem _ hp), Nat.ne_of_lt (g1 p hp)⟩)
            obtain ⟨v4, hv4⟩ : ∃ V, V = World.setCell v3 ⟨b1, 0, none⟩ (.int .i64 (put_5 c).vars) := ⟨_, rfl⟩
            rw [← hv4] at E4 ⊢
            clear hv4
            refine hK.out _ _ (E4.cell (List.mem_cons_of_mem _ (List.mem_cons_of_mem _ m_m))) (fun hHeld => ?_)
            clear hK K
            try simp only [Act.put, List.setIfInBounds_toArray, List.set_cons_zero, List.set_cons_succ]
            refine wpAnyH_ready (rs := [7]) (by kernel_rfl) (by simp) ?_
            refine AllReadyH.cons rfl (fun K hK => ?_) AllReadyH.nil
            have qc := Env.cell E4 (List.mem_cons_of_mem _ List.mem_cons_self)
            have qz := Env.frozen E4 (List.mem_cons_of_mem _ List.mem_cons_self)
            go_simp
            clear qc qz
            have E5 := Env.poke (v' := .int .i64 (put_6 c).vars) (l' := _ :: l2) E4 (List.mem_cons_of_mem _ List.mem_cons_self) f2 (fun p hp => by rcases List.mem_cons.1 hp with rfl | hp; exact ⟨List.mem_cons_self, by show b1 ≠ b2; omega⟩; exact ⟨List.mem_cons_of_mem _ (List.mem_cons_of_mem _ hp), Nat.ne_of_lt (g2 p hp)⟩)
            obtain ⟨v5, hv5⟩ : ∃ V, V = World.setCell v4 ⟨b2, 0, none⟩ (.int .i64 (put_6 c).vars) := ⟨_, rfl⟩
            rw [← hv5] at E5 ⊢
            clear hv5
            refine hK.out _ _ (E5.cell (List.mem_cons_of_mem _ (List.mem_cons_of_mem _ m_m))) (fun hHeld => ?_)
            clear hK K
            try simp only [Act.put, List.setIfInBounds_toArray, List.set_cons_zero, List.set_cons_succ]
            refine wpAnyH_done (by kernel_rfl) ?_ _
            exact ⟨b1, b2, rfl, hr6, hr7, E5⟩
      · have f1 := Env.base hd0
        have g1 : ∀ p ∈ l2, p.1 < _ := fun p hp => Env.lt hd0 hp
        have E0 : Env _ _ _ ((w5.heap.size, 0, .int .i64 0) :: _) _ _ _ ((World.alloc w5 (.cells #[.int .i64 0] 3)).drew) := Env.box hd0 (.int .i64 0) 3
        go_simp
        try simp only [World.size_drew] at f1 g1 E0
        obtain ⟨v0, hv0⟩ : ∃ V, V = (World.alloc w5 (.cells #[.int .i64 0] 3)).drew := ⟨_, rfl⟩
        rw [← hv0] at E0 ⊢
        clear hv0
        generalize w5.heap.size = b1 at f1 g1 E0 ⊢
        refine hK.out _ _ (E0.cell (List.mem_cons_of_mem _ m_m)) (fun hHeld => ?_)
        clear hK K
        try simp only [Act.put, List.setIfInBounds_toArray, List.set_cons_zero, List.set_cons_succ]
        refine wpAnyH_ready (rs := [1, 5]) (by kernel_rfl) (by simp) ?_
        refine AllReadyH.cons rfl (fun K hK => ?_) (AllReadyH.cons rfl (fun K hK => ?_) AllReadyH.nil)
        · go_simp
          refine (load_any 0 0 hz_0 hz_0 E0).mono ?_
          rintro e v1 ⟨rfl, E1_⟩
          have E1 : Env (w.heap.size + 1) W0 bm _ (n + 66) (put_6 c) ((put_4 c).blocks.length + 1) v1 := E1_
          clear E1_
          try go_wp2_with fail
          refine hK.out _ _ (E1.cell (List.mem_cons_of_mem _ m_m)) (fun hHeld => ?_)
          clear hK K
          try simp only [Act.put, List.setIfInBounds_toArray, List.set_cons_zero, List.set_cons_succ]
          have hr6 := InI.vars E0
          refine wpAnyH_ready (rs := [3, 5]) (by kernel_rfl) (by simp) ?_
          refine AllReadyH.cons rfl (fun K hK => ?_) (AllReadyH.cons rfl (fun K hK => ?_) AllReadyH.nil)
          · go_simp
            refine (load_any 0 1 hz_0 hz_1 E1).mono ?_
            rintro e v2 ⟨rfl, E2_⟩
            have E2 : Env (w.heap.size + 1) W0 bm _ (n + 64) (put_7 c) ((put_4 c).blocks.length + 1) v2 := E2_
            clear E2_
            try go_wp2_with fail
            refine hK.out _ _ (E2.cell (List.mem_cons_of_mem _ m_m)) (fun hHeld => ?_)
            clear hK K
            try simp only [Act.put, List.setIfInBounds_toArray, List.set_cons_zero, List.set_cons_succ]
            have hr7 := InI.vars E1
            refine wpAnyH_ready (rs := [5]) (by kernel_rfl) (by simp) ?_
            refine AllReadyH.cons rfl (fun K hK => ?_) AllReadyH.nil
            have f2 := Env.base E2
            have g2 : ∀ p ∈ l2, p.1 < _ := fun p hp => Env.lt E2 (List.mem_cons_of_mem _ hp)
            have gne := Env.lt E2 List.mem_cons_self
            have E3 := Env.box E2 (.int .i64 0) 3
            go_simp
            try simp only [World.size_drew] at f2 g2 E3 gne
            obtain ⟨v3, hv3⟩ : ∃ V, V = World.alloc v2 (.cells #[.int .i64 0] 3) := ⟨_, rfl⟩
            rw [← hv3] at E3 ⊢
            clear hv3
            generalize v2.heap.size = b2 at f2 g2 E3 gne ⊢
            refine hK.out _ _ (E3.cell (List.mem_cons_of_mem _ (List.mem_cons_of_mem _ m_m))) (fun hHeld => ?_)
            clear hK K
            try simp only [Act.put, List.setIfInBounds_toArray, List.set_cons_zero, List.set_cons_succ]
            refine wpAnyH_ready (rs := [6]) (by kernel_rfl) (by simp) ?_
            refine AllReadyH.cons rfl (fun K hK => ?_) AllReadyH.nil
            have qc := Env.cell E3 (List.mem_cons_of_mem _ List.mem_cons_self)
            have qz := Env.frozen E3 (List.mem_cons_of_mem _ List.mem_cons_self)
            go_simp
            clear qc qz
            have E4 := Env.poke (v' := .int .i64 (put_5 c).vars) (l' := _ :: l2) E3 (List.mem_cons_of_mem _ List.mem_cons_self) f1 (fun p hp => by rcases List.mem_cons.1 hp with rfl | hp; exact ⟨List.mem_cons_self, by show b2 ≠ b1; omega⟩; exact ⟨List.mem_cons_of_mem _ (List.mem_cons_of_mem _ hp), Nat.ne_of_lt (g1 p hp)⟩)
            obtain ⟨v4, hv4⟩ : ∃ V, V = World.setCell v3 ⟨b1, 0, none⟩ (.int .i64 (put_5 c).vars) := ⟨_, rfl⟩
            rw [← hv4] at E4 ⊢
            clear hv4
            refine hK.out _ _ (E4.cell (List.mem_cons_of_mem _ (List.mem_cons_of_mem _ m_m))) (fun hHeld => ?_)
            clear hK K
            try simp only [Act.put, List.setIfInBounds_toArray, List.set_cons_zero, List.set_cons_succ]
            refine wpAnyH_ready (rs := [7]) (by kernel_rfl) (by simp) ?_
            refine AllReadyH.cons rfl (fun K hK => ?_) AllReadyH.nil
            have qc := Env.cell E4 (List.mem_cons_of_mem _ List.mem_cons_self)
            have qz := Env.frozen E4 (List.mem_cons_of_mem _ List.mem_cons_self)
            go_simp
            clear qc qz
            have E5 := Env.poke (v' := .int .i64 (put_6 c).vars) (l' := _ :: l2) E4 (List.mem_cons_of_mem _ List.mem_cons_self) f2 (fun p hp => by rcases List.mem_cons.1 hp with rfl | hp; exact ⟨List.mem_cons_self, by show b1 ≠ b2; omega⟩; exact ⟨List.mem_cons_of_mem _ (List.mem_cons_of_mem _ hp), Nat.ne_of_lt (g2 p hp)⟩)
            obtain ⟨v5, hv5⟩ : ∃ V, V = World.setCell v4 ⟨b2, 0, none⟩ (.int .i64 (put_6 c).vars) := ⟨_, rfl⟩
            rw [← hv5] at E5 ⊢
            clear hv5
            refine hK.out _ _ (E5.cell (List.mem_cons_of_mem _ (List.mem_cons_of_mem _ m_m))) (fun hHeld => ?_)
            clear hK K
            try simp only [Act.put, List.setIfInBounds_toArray, List.set_cons_zero, List.set_cons_succ]
            refine wpAnyH_done (by kernel_rfl) ?_ _
            exact ⟨b1, b2, rfl, hr6, hr7, E5⟩
          · have f2 := Env.base E1
            have g2 : ∀ p ∈ l2, p.1 < _ := fun p hp => Env.lt E1 (List.mem_cons_of_mem _ hp)
            have gne := Env.lt E1 List.mem_cons_self
            have E2 := Env.box E1 (.int .i64 0) 3
            go_simp
            try simp only [World.size_drew] at f2 g2 E2 gne
            obtain ⟨v2, hv2⟩ : ∃ V, V = World.alloc v1 (.cells #[.int .i64 0] 3) := ⟨_, rfl⟩
            rw [← hv2] at E2 ⊢
            clear hv2
            generalize v1.heap.size = b2 at f2 g2 E2 gne ⊢
            refine hK.out _ _ (E2.cell (List.mem_cons_of_mem _ (List.mem_cons_of_mem _ m_m))) (fun hHeld => ?_)
            clear hK K
            try simp only [Act.put, List.setIfInBounds_toArray, List.set_cons_zero, List.set_cons_succ]
            refine wpAnyH_ready (rs := [3]) (by kernel_rfl) (by simp) ?_
            refine AllReadyH.cons rfl (fun K hK => ?_) AllReadyH.nil
            go_simp
            refine (load_any 0 1 hz_0 hz_1 E2).mono ?_
            rintro e v3 ⟨rfl, E3_⟩
            have E3 : Env (w.heap.size + 1) W0 bm _ (n + 64) (put_7 c) ((put_4 c).blocks.length + 1) v3 := E3_
            clear E3_
            try go_wp2_with fail
            refine hK.out _ _ (E3.cell (List.mem_cons_of_mem _ (List.mem_cons_of_mem _ m_m))) (fun hHeld => ?_)
            clear hK K
            try simp only [Act.put, List.setIfInBounds_toArray, List.set_cons_zero, List.set_cons_succ]
            have hr7 := InI.vars E2
            refine wpAnyH_ready (rs := [6]) (by kernel_rfl) (by simp) ?_
            refine AllReadyH.cons rfl (fun K hK => ?_) AllReadyH.nil
            have qc := Env.cell E3 (List.mem_cons_of_mem _ List.mem_cons_self)
            have qz := Env.frozen E3 (List.mem_cons_of_mem _ List.mem_cons_self)
            go_simp
            clear qc qz
            have E4 := Env.poke (v' := .int .i64 (put_5 c).vars) (l' := _ :: l2) E3 (List.mem_cons_of_mem _ List.mem_cons_self) f1 (fun p hp => by rcases List.mem_cons.1 hp with rfl | hp; exact ⟨List.mem_cons_self, by show b2 ≠ b1; omega⟩; exact ⟨List.mem_cons_of_mem _ (List.mem_cons_of_mem _ hp), Nat.ne_of_lt (g1 p hp)⟩)
            obtain ⟨v4, hv4⟩ : ∃ V, V = World.setCell v3 ⟨b1, 0, none⟩ (.int .i64 (put_5 c).vars) := ⟨_, rfl⟩
            rw [← hv4] at E4 ⊢
            clear hv4
            refine hK.out _ _ (E4.cell (List.mem_cons_of_mem _ (List.mem_cons_of_mem _ m_m))) (fun hHeld => ?_)
            clear hK K
            try simp only [Act.put, List.setIfInBounds_toArray, List.set_cons_zero, List.set_cons_succ]
            refine wpAnyH_ready (rs := [7]) (by kernel_rfl) (by simp) ?_
            refine AllReadyH.cons rfl (fun K hK => ?_) AllReadyH.nil
            have qc := Env.cell E4 (List.mem_cons_of_mem _ List.mem_cons_self)
            have qz := Env.frozen E4 (List.mem_cons_of_mem _ List.mem_cons_self)
            go_simp
            clear qc qz
            have E5 := Env.poke (v' := .int .i64 (put_6 c).vars) (l' := _ :: l2) E4 (List.mem_cons_of_mem _ List.mem_cons_self) f2 (fun p hp => by rcases List.mem_cons.1 hp with rfl | hp; exact ⟨List.mem_cons_self, by show b1 ≠ b2; omega⟩; exact ⟨List.mem_cons_of_mem _ (List.mem_cons_of_mem _ hp), Nat.ne_of_lt (g2 p hp)⟩)
            obtain ⟨v5, hv5⟩ : ∃ V, V = World.setCell v4 ⟨b2, 0, none⟩ (.int .i64 (put_6 c).vars) := ⟨_, rfl⟩
            rw [← hv5] at E5 ⊢
            clear hv5
            refine hK.out _ _ (E5.cell (List.mem_cons_of_mem _ (List.mem_cons_of_mem _ m_m))) (fun hHeld => ?_)
            clear hK K
            try simp only [Act.put, List.setIfInBounds_toArray, List.set_cons_zero, List.set_cons_succ]
            refine wpAnyH_done (by kernel_rfl) ?_ _
            exact ⟨b1, b2, rfl, hr6, hr7, E5⟩
        · have f2 := Env.base E0
          have g2 : ∀ p ∈ l2, p.1 < _ := fun p hp => Env.lt E0 (List.mem_cons_of_mem _ hp)
          have gne := Env.lt E0 List.mem_cons_self
          have E1 := Env.box E0 (.int .i64 0) 3
          go_simp
          try simp only [World.size_drew] at f2 g2 E1 gne
          obtain ⟨v1, hv1⟩ : ∃ V, V = World.alloc v0 (.cells #[.int .i64 0] 3) := ⟨_, rfl⟩
          rw [← hv1] at E1 ⊢
          clear hv1
          generalize v0.heap.size = b2 at f2 g2 E1 gne ⊢
          refine hK.out _ _ (E1.cell (List.mem_cons_of_mem _ (List.mem_cons_of_mem _ m_m))) (fun hHeld => ?_)
          clear hK K
          try simp only [Act.put, List.setIfInBounds_toArray, List.set_cons_zero, List.set_cons_succ]
          refine wpAnyH_ready (rs := [1]) (by kernel_rfl) (by simp) ?_
          refine AllReadyH.cons rfl (fun K hK => ?_) AllReadyH.nil
          go_simp
          refine (load_any 0 0 hz_0 hz_0 E1).mono ?_
          rintro e v2 ⟨rfl, E2_⟩
          have E2 : Env (w.heap.size + 1) W0 bm _ (n + 66) (put_6 c) ((put_4 c).blocks.length + 1) v2 := E2_
          clear E2_
          try go_wp2_with fail
          refine hK.out _ _ (E2.cell (List.mem_cons_of_mem _ (List.mem_cons_of_mem _ m_m))) (fun hHeld => ?_)
          clear hK K
          try simp only [Act.put, List.setIfInBounds_toArray, List.set_cons_zero, List.set_cons_succ]
          have hr6 := InI.vars E1
          refine wpAnyH_ready (rs := [3]) (by kernel_rfl) (by simp) ?_
          refine AllReadyH.cons rfl (fun K hK => ?_) AllReadyH.nil
          go_simp
          refine (load_any 0 1 hz_0 hz_1 E2).mono ?_
          rintro e v3 ⟨rfl, E3_⟩
          have E3 : Env (w.heap.size + 1) W0 bm _ (n + 64) (put_7 c) ((put_4 c).blocks.length + 1) v3 := E3_
          clear E3_
          try go_wp2_with fail
          refine hK.out _ _ (E3.cell (List.mem_cons_of_mem _ (List.mem_cons_of_mem _ m_m))) (fun hHeld => ?_)
          clear hK K
          try simp only [Act.put, List.setIfInBounds_toArray, List.set_cons_zero, List.set_cons_succ]
          have hr7 := InI.vars E2
          refine wpAnyH_ready (rs := [6]) (by kernel_rfl) (by simp) ?_
          refine AllReadyH.cons rfl (fun K hK => ?_) AllReadyH.nil
          have qc := Env.cell E3 (List.mem_cons_of_mem _ List.mem_cons_self)
          have qz := Env.frozen E3 (List.mem_cons_of_mem _ List.mem_cons_self)
          go_simp
          clear qc qz
          have E4 := Env.poke (v' := .int .i64 (put_5 c).vars) (l' := _ :: l2) E3 (List.mem_cons_of_mem _ List.mem_cons_self) f1 (fun p hp => by rcases List.mem_cons.1 hp with rfl | hp; exact ⟨List.mem_cons_self, by show b2 ≠ b1; omega⟩; exact ⟨List.mem_cons_of_mem _ (List.mem_cons_of_mem _ hp), Nat.ne_of_lt (g1 p hp)⟩)
          obtain ⟨v4, hv4⟩ : ∃ V, V = World.setCell v3 ⟨b1, 0, none⟩ (.int .i64 (put_5 c).vars) := ⟨_, rfl⟩
          rw [← hv4] at E4 ⊢
          clear hv4
          refine hK.out _ _ (E4.cell (List.mem_cons_of_mem _ (List.mem_cons_of_mem _ m_m))) (fun hHeld => ?_)
          clear hK K
          try simp only [Act.put, List.setIfInBounds_toArray, List.set_cons_zero, List.set_cons_succ]
          refine wpAnyH_ready (rs := [7]) (by kernel_rfl) (by simp) ?_
          refine AllReadyH.cons rfl (fun K hK => ?_) AllReadyH.nil
          have qc := Env.cell E4 (List.mem_cons_of_mem _ List.mem_cons_self)
          have qz := Env.frozen E4 (List.mem_cons_of_mem _ List.mem_cons_self)
          go_simp
          clear qc qz
          have E5 := Env.poke (v' := .int .i64 (put_6 c).vars) (l' := _ :: l2) E4 (List.mem_cons_of_mem _ List.mem_cons_self) f2 (fun p hp => by rcases List.mem_cons.1 hp with rfl | hp; exact ⟨List.mem_cons_self, by show b1 ≠ b2; omega⟩; exact ⟨List.mem_cons_of_mem _ (List.mem_cons_of_mem _ hp), Nat.ne_of_lt (g2 p hp)⟩)
          obtain ⟨v5, hv5⟩ : ∃ V, V = World.setCell v4 ⟨b2, 0, none⟩ (.int .i64 (put_6 c).vars) := ⟨_, rfl⟩
          rw [← hv5] at E5 ⊢
          clear hv5
          refine hK.out _ _ (E5.cell (List.mem_cons_of_mem _ (List.mem_cons_of_mem _ m_m))) (fun hHeld => ?_)
          clear hK K
          try simp only [Act.put, List.setIfInBounds_toArray, List.set_cons_zero, List.set_cons_succ]
          refine wpAnyH_done (by kernel_rfl) ?_ _
          exact ⟨b1, b2, rfl, hr6, hr7, E5⟩
      · have f2 := Env.base hd0
        have g2 : ∀ p ∈ l2, p.1 < _ := fun p hp => Env.lt hd0 hp
        have E0 : Env _ _ _ ((w5.heap.size, 0, .int .i64 0) :: _) _ _ _ ((World.alloc w5 (.cells #[.int .i64 0] 3)).drew) := Env.box hd0 (.int .i64 0) 3
        go_simp
        try simp only [World.size_drew] at f2 g2 E0
        obtain ⟨v0, hv0⟩ : ∃ V, V = (World.alloc w5 (.cells #[.int .i64 0] 3)).drew := ⟨_, rfl⟩
        rw [← hv0] at E0 ⊢
        clear hv0
        generalize w5.heap.size = b2 at f2 g2 E0 ⊢
        refine hK.out _ _ (E0.cell (List.mem_cons_of_mem _ m_m)) (fun hHeld => ?_)
        clear hK K
        try simp only [Act.put, List.setIfInBounds_toArray, List.set_cons_zero, List.set_cons_succ]
        refine wpAnyH_ready (rs := [1, 4]) (by kernel_rfl) (by simp) ?_
        refine AllReadyH.cons rfl (fun K hK => ?_) (AllReadyH.cons rfl (fun K hK => ?_) AllReadyH.nil)
        · go_simp
          refine (load_any 0 0 hz_0 hz_0 E0).mono ?_
          rintro e v1 ⟨rfl, E1_⟩
          have E1 : Env (w.heap.size + 1) W0 bm _ (n + 66) (put_6 c) ((put_4 c).blocks.length + 1) v1 := E1_
          clear E1_
          try go_wp2_with fail
          refine hK.out _ _ (E1.cell (List.mem_cons_of_mem _ m_m)) (fun hHeld => ?_)
          clear hK K
          try simp only [Act.put, List.setIfInBounds_toArray, List.set_cons_zero, List.set_cons_succ]
          have hr6 := InI.vars E0
          refine wpAnyH_ready (rs := [3, 4]) (by kernel_rfl) (by simp) ?_
          refine AllReadyH.cons rfl (fun K hK => ?_) (AllReadyH.cons rfl (fun K hK => ?_) AllReadyH.nil)
          · go_simp
            refine (load_any 0 1 hz_0 hz_1 E1).mono ?_
            rintro e v2 ⟨rfl, E2_⟩
            have E2 : Env (w.heap.size + 1) W0 bm _ (n + 64) (put_7 c) ((put_4 c).blocks.length + 1) v2 := E2_
            clear E2_
            try go_wp2_with fail
            refine hK.out _ _ (E2.cell (List.mem_cons_of_mem _ m_m)) (fun hHeld => ?_)
            clear hK K
            try simp only [Act.put, List.setIfInBounds_toArray, List.set_cons_zero, List.set_cons_succ]
            have hr7 := InI.vars E1
            refine wpAnyH_ready (rs := [4]) (by kernel_rfl) (by simp) ?_
            refine AllReadyH.cons rfl (fun K hK => ?_) AllReadyH.nil
            have f1 := Env.base E2
            have g1 : ∀ p ∈ l2, p.1 < _ := fun p hp => Env.lt E2 (List.mem_cons_of_mem _ hp)
            have gne := Env.lt E2 List.mem_cons_self
            have E3 := Env.box E2 (.int .i64 0) 3
            go_simp
            try simp only [World.size_drew] at f1 g1 E3 gne
            obtain ⟨v3, hv3⟩ : ∃ V, V = World.alloc v2 (.cells #[.int .i64 0] 3) := ⟨_, rfl⟩
            rw [← hv3] at E3 ⊢
            clear hv3
            generalize v2.heap.size = b1 at f1 g1 E3 gne ⊢
            refine hK.out _ _ (E3.cell (List.mem_cons_of_mem _ (List.mem_cons_of_mem _ m_m))) (fun hHeld => ?_)
            clear hK K
            try simp only [Act.put, List.setIfInBounds_toArray, List.set_cons_zero, List.set_cons_succ]
            refine wpAnyH_ready (rs := [6]) (by kernel_rfl) (by simp) ?_
            refine AllReadyH.cons rfl (fun K hK => ?_) AllReadyH.nil
            have qc := Env.cell E3 List.mem_cons_self
            have qz := Env.frozen E3 List.mem_cons_self
            go_simp
            clear qc qz
            have E4 := Env.poke (v' := .int .i64 (put_5 c).vars) (l' := _ :: l2) E3 List.mem_cons_self f1 (fun p hp => by rcases List.mem_cons.1 hp with rfl | hp; exact ⟨(List.mem_cons_of_mem _ List.mem_cons_self), by show b2 ≠ b1; omega⟩; exact ⟨List.mem_cons_of_mem _ (List.mem_cons_of_mem _ hp), Nat.ne_of_lt (g1 p hp)⟩)
            obtain ⟨v4, hv4⟩ : ∃ V, V = World.setCell v3 ⟨b1, 0, none⟩ (.int .i64 (put_5 c).vars) := ⟨_, rfl⟩
            rw [← hv4] at E4 ⊢
            clear hv4
            refine hK.out _ _ (E4.cell (List.mem_cons_of_mem _ (List.mem_cons_of_mem _ m_m))) (fun hHeld => ?_)
            clear hK K
            try simp only [Act.put, List.setIfInBounds_toArray, List.set_cons_zero, List.set_cons_succ]
            refine wpAnyH_ready (rs := [7]) (by kernel_rfl) (by simp) ?_
            refine AllReadyH.cons rfl (fun K hK => ?_) AllReadyH.nil
            have qc := Env.cell E4 (List.mem_cons_of_mem _ List.mem_cons_self)
            have qz := Env.frozen E4 (List.mem_cons_of_mem _ List.mem_cons_self)
            go_simp
            clear qc qz
            have E5 := Env.poke (v' := .int .i64 (put_6 c).vars) (l' := _ :: l2) E4 (List.mem_cons_of_mem _ List.mem_cons_self) f2 (fun p hp => by rcases List.mem_cons.1 hp with rfl | hp; exact ⟨List.mem_cons_self, by show b1 ≠ b2; omega⟩; exact ⟨List.mem_cons_of_mem _ (List.mem_cons_of_mem _ hp), Nat.ne_of_lt (g2 p hp)⟩)
            obtain ⟨v5, hv5⟩ : ∃ V, V = World.setCell v4 ⟨b2, 0, none⟩ (.int .i64 (put_6 c).vars) := ⟨_, rfl⟩
            rw [← hv5] at E5 ⊢
            clear hv5
            refine hK.out _ _ (E5.cell (List.mem_cons_of_mem _ (List.mem_cons_of_mem _ m_m))) (fun hHeld => ?_)
            clear hK K
            try simp only [Act.put, List.setIfInBounds_toArray, List.set_cons_zero, List.set_cons_succ]
            refine wpAnyH_done (by kernel_rfl) ?_ _
            exact ⟨b1, b2, rfl, hr6, hr7, E5⟩
          · have f1 := Env.base E1
            have g1 : ∀ p ∈ l2, p.1 < _ := fun p hp => Env.lt E1 (List.mem_cons_of_mem _ hp)
            have gne := Env.lt E1 List.mem_cons_self
            have E2 := Env.box E1 (.int .i64 0) 3
            go_simp
            try simp only [World.size_drew] at f1 g1 E2 gne
            obtain ⟨v2, hv2⟩ : ∃ V, V = World.alloc v1 (.cells #[.int .i64 0] 3) := ⟨_, rfl⟩
            rw [← hv2] at E2 ⊢
            clear hv2
            generalize v1.heap.size = b1 at f1 g1 E2 gne ⊢
            refine hK.out _ _ (E2.cell (List.mem_cons_of_mem _ (List.mem_cons_of_mem _ m_m))) (fun hHeld => ?_)
            clear hK K
            try simp only [Act.put, List.setIfInBounds_toArray, List.set_cons_zero, List.set_cons_succ]
            refine wpAnyH_ready (rs := [3]) (by kernel_rfl) (by simp) ?_
            refine AllReadyH.cons rfl (fun K hK => ?_) AllReadyH.nil
            go_simp
            refine (load_any 0 1 hz_0 hz_1 E2).mono ?_
            rintro e v3 ⟨rfl, E3_⟩
            have E3 : Env (w.heap.size + 1) W0 bm _ (n + 64) (put_7 c) ((put_4 c).blocks.length + 1) v3 := E3_
            clear E3_
            try go_wp2_with fail
            refine hK.out _ _ (E3.cell (List.mem_cons_of_mem _ (List.mem_cons_of_mem _ m_m))) (fun hHeld => ?_)
            clear hK K
            try simp only [Act.put, List.setIfInBounds_toArray, List.set_cons_zero, List.set_cons_succ]
            have hr7 := InI.vars E2
            refine wpAnyH_ready (rs := [6]) (by kernel_rfl) (by simp) ?_
            refine AllReadyH.cons rfl (fun K hK => ?_) AllReadyH.nil
            have qc := Env.cell E3 List.mem_cons_self
            have qz := Env.frozen E3 List.mem_cons_self
            go_simp
            clear qc qz
            have E4 := Env.poke (v' := .int .i64 (put_5 c).vars) (l' := _ :: l2) E3 List.mem_cons_self f1 (fun p hp => by rcases List.mem_cons.1 hp with rfl | hp; exact ⟨(List.mem_cons_of_mem _ List.mem_cons_self), by show b2 ≠ b1; omega⟩; exact ⟨List.mem_cons_of_mem _ (List.mem_cons_of_mem _ hp), Nat.ne_of_lt (g1 p hp)⟩)
            obtain ⟨v4, hv4⟩ : ∃ V, V = World.setCell v3 ⟨b1, 0, none⟩ (.int .i64 (put_5 c).vars) := ⟨_, rfl⟩
            rw [← hv4] at E4 ⊢
            clear hv4
            refine hK.out _ _ (E4.cell (List.mem_cons_of_mem _ (List.mem_cons_of_mem _ m_m))) (fun hHeld => ?_)
            clear hK K
            try simp only [Act.put, List.setIfInBounds_toArray, List.set_cons_zero, List.set_cons_succ]
            refine wpAnyH_ready (rs := [7]) (by kernel_rfl) (by simp) ?_
            refine AllReadyH.cons rfl (fun K hK => ?_) AllReadyH.nil
            have qc := Env.cell E4 (List.mem_cons_of_mem _ List.mem_cons_self)
            have qz := Env.frozen E4 (List.mem_cons_of_mem _ List.mem_cons_self)
            go_simp
            clear qc qz
            have E5 := Env.poke (v' := .int .i64 (put_6 c).vars) (l' := _ :: l2) E4 (List.mem_cons_of_mem _ List.mem_cons_self) f2 (fun p hp => by rcases List.mem_cons.1 hp with rfl | hp; exact ⟨List.mem_cons_self, by show b1 ≠ b2; omega⟩; exact ⟨List.mem_cons_of_mem _ (List.mem_cons_of_mem _ hp), Nat.ne_of_lt (g2 p hp)⟩)
            obtain ⟨v5, hv5⟩ : ∃ V, V = World.setCell v4 ⟨b2, 0, none⟩ (.int .i64 (put_6 c).vars) := ⟨_, rfl⟩
            rw [← hv5] at E5 ⊢
            clear hv5
            refine hK.out _ _ (E5.cell (List.mem_cons_of_mem _ (List.mem_cons_of_mem _ m_m))) (fun hHeld => ?_)
            clear hK K
            try simp only [Act.put, List.setIfInBounds_toArray, List.set_cons_zero, List.set_cons_succ]
            refine wpAnyH_done (by kernel_rfl) ?_ _
            exact ⟨b1, b2, rfl, hr6, hr7, E5⟩
        · have f1 := Env.base E0
          have g1 : ∀ p ∈ l2, p.1 < _ := fun p hp => Env.lt E0 (List.mem_cons_of_mem _ hp)
          have gne := Env.lt E0 List.mem_cons_self
          have E1 := Env.box E0 (.int .i64 0) 3
          go_simp
          try simp only [World.size_drew] at f1 g1 E1 gne
          obtain ⟨v1, hv1⟩ : ∃ V, V = World.alloc v0 (.cells #[.int .i64 0] 3) := ⟨_, rfl⟩
          rw [← hv1] at E1 ⊢
          clear hv1
          generalize v0.heap.size = b1 at f1 g1 E1 gne ⊢
          refine hK.out _ _ (E1.cell (List.mem_cons_of_mem _ (List.mem_cons_of_mem _ m_m))) (fun hHeld => ?_)
          clear hK K
          try simp only [Act.put, List.setIfInBounds_toArray, List.set_cons_zero, List.set_cons_succ]
          refine wpAnyH_ready (rs := [1]) (by kernel_rfl) (by simp) ?_
          refine AllReadyH.cons rfl (fun K hK => ?_) AllReadyH.nil
          go_simp
          refine (load_any 0 0 hz_0 hz_0 E1).mono ?_
          rintro e v2 ⟨rfl, E2_⟩
          have E2 : Env (w.heap.size + 1) W0 bm _ (n + 66) (put_6 c) ((put_4 c).blocks.length + 1) v2 := E2_
          clear E2_
          try go_wp2_with fail
          refine hK.out _ _ (E2.cell (List.mem_cons_of_mem _ (List.mem_cons_of_mem _ m_m))) (fun hHeld => ?_)
          clear hK K
          try simp only [Act.put, List.setIfInBounds_toArray, List.set_cons_zero, List.set_cons_succ]
          have hr6 := InI.vars E1
          refine wpAnyH_ready (rs := [3]) (by kernel_rfl) (by simp) ?_
          refine AllReadyH.cons rfl (fun K hK => ?_) AllReadyH.nil
          go_simp
          refine (load_any 0 1 hz_0 hz_1 E2).mono ?_
          rintro e v3 ⟨rfl, E3_⟩
          have E3 : Env (w.heap.size + 1) W0 bm _ (n + 64) (put_7 c) ((put_4 c).blocks.length + 1) v3 := E3_
          clear E3_
          try go_wp2_with fail
          refine hK.out _ _ (E3.cell (List.mem_cons_of_mem _ (List.mem_cons_of_mem _ m_m))) (fun hHeld => ?_)
          clear hK K
          try simp only [Act.put, List.setIfInBounds_toArray, List.set_cons_zero, List.set_cons_succ]
          have hr7 := InI.vars E2
          refine wpAnyH_ready (rs := [6]) (by kernel_rfl) (by simp) ?_
          refine AllReadyH.cons rfl (fun K hK => ?_) AllReadyH.nil
          have qc := Env.cell E3 List.mem_cons_self
          have qz := Env.frozen E3 List.mem_cons_self
          go_simp
          clear qc qz
          have E4 := Env.poke (v' := .int .i64 (put_5 c).vars) (l' := _ :: l2) E3 List.mem_cons_self f1 (fun p hp => by rcases List.mem_cons.1 hp with rfl | hp; exact ⟨(List.mem_cons_of_mem _ List.mem_cons_self), by show b2 ≠ b1; omega⟩; exact ⟨List.mem_cons_of_mem _ (List.mem_cons_of_mem _ hp), Nat.ne_of_lt (g1 p hp)⟩)
          obtain ⟨v4, hv4⟩ : ∃ V, V = World.setCell v3 ⟨b1, 0, none⟩ (.int .i64 (put_5 c).vars) := ⟨_, rfl⟩
          rw [← hv4] at E4 ⊢
          clear hv4
          refine hK.out _ _ (E4.cell (List.mem_cons_of_mem _ (List.mem_cons_of_mem _ m_m))) (fun hHeld => ?_)
          clear hK K
          try simp only [Act.put, List.setIfInBounds_toArray, List.set_cons_zero, List.set_cons_succ]
          refine wpAnyH_ready (rs := [7]) (by kernel_rfl) (by simp) ?_
          refine AllReadyH.cons rfl (fun K hK => ?_) AllReadyH.nil
          have qc := Env.cell E4 (List.mem_cons_of_mem _ List.mem_cons_self)
          have qz := Env.frozen E4 (List.mem_cons_of_mem _ List.mem_cons_self)
          go_simp
          clear qc qz
          have E5 := Env.poke (v' := .int .i64 (put_6 c).vars) (l' := _ :: l2) E4 (List.mem_cons_of_mem _ List.mem_cons_self) f2 (fun p hp => by rcases List.mem_cons.1 hp with rfl | hp; exact ⟨List.mem_cons_self, by show b1 ≠ b2; omega⟩; exact ⟨List.mem_cons_of_mem _ (List.mem_cons_of_mem _ hp), Nat.ne_of_lt (g2 p hp)⟩)
          obtain ⟨v5, hv5⟩ : ∃ V, V = World.setCell v4 ⟨b2, 0, none⟩ (.int .i64 (put_6 c).vars) := ⟨_, rfl⟩
          rw [← hv5] at E5 ⊢
          clear hv5
          refine hK.out _ _ (E5.cell (List.mem_cons_of_mem _ (List.mem_cons_of_mem _ m_m))) (fun hHeld => ?_)
          clear hK K
          try simp only [Act.put, List.setIfInBounds_toArray, List.set_cons_zero, List.set_cons_succ]
          refine wpAnyH_done (by kernel_rfl) ?_ _
          exact ⟨b1, b2, rfl, hr6, hr7, E5⟩) ?_
    clear hS0 hd0
    rintro x5_1 x5_2 w7 ⟨hr6, hr7, e7⟩
    obtain ⟨l3, hl3⟩ : ∃ l, l = (x5_2, 0, Value.int .i64 (put_6 c).vars) :: (x5_1, 0, Value.int .i64 (put_5 c).vars) :: l2 := ⟨_, rfl⟩
    rw [← hl3] at e7
    have m_m := (show _ ∈ l3 from hl3 ▸ (List.mem_cons_of_mem _ (List.mem_cons_of_mem _ m_m)))
    have m_at_ := (show _ ∈ l3 from hl3 ▸ (List.mem_cons_of_mem _ (List.mem_cons_of_mem _ m_at_)))
    have m_v : (x5_1, 0, Value.int .i64 (put_5 c).vars) ∈ l3 := by rw [hl3]; exact (List.mem_cons_of_mem _ List.mem_cons_self)
    have m_room : (x5_2, 0, Value.int .i64 (put_6 c).vars) ∈ l3 := by rw [hl3]; exact List.mem_cons_self
    have H7 := Lib.hid e7
    clear e7 hl3
    have hS := keep4 m_m m_at_ m_v m_room H7.out.x
    go_wp2_with fail
    go_region_held3 (fun w' => (w'.cell? ⟨w0.heap.size, 0, none⟩ = some (.pointer (some ⟨bm, 0, none⟩)) ∧ w'.cell? ⟨w1.heap.size, 0, none⟩ = some (.int .i64 c.vars) ∧ w'.cell? ⟨x5_1, 0, none⟩ = some (.int .i64 (put_5 c).vars) ∧ w'.cell? ⟨x5_2, 0, none⟩ = some (.int .i64 (put_6 c).vars)) ∧ EnvX (w.heap.size + 1) W0 bm l3 w')
      (first | exact hS | exact keep4 m_m m_at_ m_v m_room H7.out.x.drew | exact keep4 m_m m_at_ m_v m_room (Env.x (by assumption)) | exact keep4 m_m m_at_ m_v m_room (EnvX.drew (And.right (by assumption))) | exact keep4 m_m m_at_ m_v m_room (EnvX.alloc (Env.x (by assumption)) _) | exact keep4 m_m m_at_ m_v m_room (EnvX.alloc (And.right (by assumption)) _))
      (first | (go_at_call 31; (refine (math_any ⟨#[61, 61]⟩ (put_5 c).vars (put_6 c).vars hr6 hr7 (by decide) H7.out.drew).mono ?_); rintro e w8 ⟨rfl, e80⟩; have e8 : Env (w.heap.size + 1) W0 bm l3 (n + 62) (put_8 c) ((put_4 c).blocks.length + 1) w8 := e80; clear e80) | (go_at_call 36; (refine (when_any (ba := #[]) (m := n + 59) (n := n + 20) (c3 := put2_F (whenIn (put_8 c) ((put_4 c).blocks.length + 1) (put_7 c).vars) (put_8 c).blocks.length (put_6 c).vars (put_5 c).vars) (k3 := put2_K (whenIn (put_8 c) ((put_4 c).blocks.length + 1) (put_7 c).vars) (put_8 c).blocks.length (put_6 c).vars (put_5 c).vars) (InI.vars H7.out) enters_put2 e8 (fun w2 e2 => by exact put2_any hr7 hr6 m_m m_room m_v e2) (by rw [put2_len, whenIn_len]; omega)).mono ?_); rintro e w9 ⟨rfl, e90⟩; have e9 : Env (w.heap.size + 1) W0 bm l3 (n + 20) (put_9 c) ((put_8 c).blocks.length + 1) w9 := e90; clear e90))
    all_goals
      have hr8 := InI.vars H7.out
      have H9 := Lib.hid e9
      clear hS
      have hS := keep4 m_m m_at_ m_v m_room H9.out.x
      go_wp2_with fail
      go_region_held3 (fun w' => (w'.cell? ⟨w0.heap.size, 0, none⟩ = some (.pointer (some ⟨bm, 0, none⟩)) ∧ w'.cell? ⟨w1.heap.size, 0, none⟩ = some (.int .i64 c.vars) ∧ w'.cell? ⟨x5_1, 0, none⟩ = some (.int .i64 (put_5 c).vars) ∧ w'.cell? ⟨x5_2, 0, none⟩ = some (.int .i64 (put_6 c).vars)) ∧ EnvX (w.heap.size + 1) W0 bm l3 w')
        (first | exact hS | exact keep4 m_m m_at_ m_v m_room H9.out.x.drew | exact keep4 m_m m_at_ m_v m_room (Env.x (by assumption)) | exact keep4 m_m m_at_ m_v m_room (EnvX.drew (And.right (by assumption))) | exact keep4 m_m m_at_ m_v m_room (EnvX.alloc (Env.x (by assumption)) _) | exact keep4 m_m m_at_ m_v m_room (EnvX.alloc (And.right (by assumption)) _))
        (first | (go_at_call 40; (refine (load_any 0 2 hz_0 hz_2 H9.out.drew).mono ?_); rintro e w10 ⟨rfl, e100⟩; have e10 : Env (w.heap.size + 1) W0 bm l3 (n + 18) (put_10 c) ((put_8 c).blocks.length + 1) w10 := e100; clear e100) | (go_at_call 35; (refine (konst_any 3 hz_3 e10).mono ?_); rintro e w11 ⟨rfl, e110⟩; have e11 : Env (w.heap.size + 1) W0 bm l3 (n + 16) (put_11 c) ((put_8 c).blocks.length + 1) w11 := e110; clear e110) | (go_at_call 31; (with_reducible refine (math_any ⟨#[42]⟩ (put_5 c).vars (put_10 c).vars hr6 (InI.vars e10) (by decide) e11).mono ?_); rintro e w12 ⟨rfl, e120⟩; have e12 : Env (w.heap.size + 1) W0 bm l3 (n + 14) (put_12 c) ((put_8 c).blocks.length + 1) w12 := e120; clear e120) | (go_at_call 31; (with_reducible refine (math_any ⟨#[43]⟩ (put_9 c).vars (put_11 c).vars (InI.vars H9.out) (InI.vars e11) (by decide) e12).mono ?_); rintro e w13 ⟨rfl, e130⟩; have e13 : Env (w.heap.size + 1) W0 bm l3 (n + 12) (put_13 c) ((put_8 c).blocks.length + 1) w13 := e130; clear e130))
      all_goals
        have hr10 := InI.vars H9.out
        have hr11 := InI.vars e10
        have hr12 := InI.vars e11
        have hr13 := InI.vars e12
        have H13 := Lib.hid e13
        clear hS
        have q_m := H13.out.cell m_m
        have q_at_ := H13.out.cell m_at_
        have q_v := H13.out.cell m_v
        have q_room := H13.out.cell m_room
        go_wp2_with fail
        clear q_m q_at_ q_v q_room
        refine (store_any (put_12 c).vars 0 1 hr13 hz_0 hz_1 H13.out).mono ?_
        rintro e w14 ⟨rfl, e140⟩
        have e14 : Env (w.heap.size + 1) W0 bm l3 (n + 11) (put_14 c) ((put_8 c).blocks.length + 1) w14 := e140
        have H14 := Lib.hid e14
        clear e14 e140
        have q_m := H14.out.cell m_m
        have q_at_ := H14.out.cell m_at_
        have q_v := H14.out.cell m_v
        have q_room := H14.out.cell m_room
        go_wp2_with fail
        clear q_m q_at_ q_v q_room
        refine (store_any (put_12 c).vars 1 2 hr13 hz_1 hz_2 H14.out).mono ?_
        rintro e w15 ⟨rfl, e150⟩
        have e15 : Env (w.heap.size + 1) W0 bm l3 (n + 10) (put_15 c) ((put_8 c).blocks.length + 1) w15 := e150
        have H15 := Lib.hid e15
        clear e15 e150
        have q_m := H15.out.cell m_m
        have q_at_ := H15.out.cell m_at_
        have q_v := H15.out.cell m_v
        have q_room := H15.out.cell m_room
        go_wp2_with fail
        clear q_m q_at_ q_v q_room
        refine (store_any (put_12 c).vars 2 (put_1 c).vars hr13 hz_2 hr2 H15.out).mono ?_
        rintro e w16 ⟨rfl, e160⟩
        have e16 : Env (w.heap.size + 1) W0 bm l3 (n + 9) (put_16 c) ((put_8 c).blocks.length + 1) w16 := e160
        have H16 := Lib.hid e16
        clear e16 e160
        have hS := keep4 m_m m_at_ m_v m_room H16.out.x
        go_wp2_with fail
        go_region_held3 (fun w' => (w'.cell? ⟨w0.heap.size, 0, none⟩ = some (.pointer (some ⟨bm, 0, none⟩)) ∧ w'.cell? ⟨w1.heap.size, 0, none⟩ = some (.int .i64 c.vars) ∧ w'.cell? ⟨x5_1, 0, none⟩ = some (.int .i64 (put_5 c).vars) ∧ w'.cell? ⟨x5_2, 0, none⟩ = some (.int .i64 (put_6 c).vars)) ∧ EnvX (w.heap.size + 1) W0 bm l3 w')
          (first | exact hS | exact keep4 m_m m_at_ m_v m_room H16.out.x.drew | exact keep4 m_m m_at_ m_v m_room (Env.x (by assumption)) | exact keep4 m_m m_at_ m_v m_room (EnvX.drew (And.right (by assumption))) | exact keep4 m_m m_at_ m_v m_room (EnvX.alloc (Env.x (by assumption)) _) | exact keep4 m_m m_at_ m_v m_room (EnvX.alloc (And.right (by assumption)) _))
          (first | (go_at_call 31; (refine (math_any ⟨#[43]⟩ (put_5 c).vars (put_1 c).vars hr6 hr2 (by decide) H16.out.drew).mono ?_); rintro e w17 ⟨rfl, e170⟩; have e17 : Env (w.heap.size + 1) W0 bm l3 (n + 7) (put_17 c) ((put_8 c).blocks.length + 1) w17 := e170; clear e170) | (go_at_call 48; (refine (store_any 0 0 (put_16 c).vars hz_0 hz_0 (InI.vars H16.out) e17).mono ?_); rintro e w18 ⟨rfl, e180⟩; have e18 : Env (w.heap.size + 1) W0 bm l3 (n + 6) (put_18 c) ((put_8 c).blocks.length + 1) w18 := e180; clear e180))
        all_goals
          have hr17 := InI.vars H16.out
          have H18 := Lib.hid e18
          clear hS
          have hS := keep4 m_m m_at_ m_v m_room H18.out.x
          go_wp2_with fail
          go_region_held3 (fun w' => (w'.cell? ⟨w0.heap.size, 0, none⟩ = some (.pointer (some ⟨bm, 0, none⟩)) ∧ w'.cell? ⟨w1.heap.size, 0, none⟩ = some (.int .i64 c.vars) ∧ w'.cell? ⟨x5_1, 0, none⟩ = some (.int .i64 (put_5 c).vars) ∧ w'.cell? ⟨x5_2, 0, none⟩ = some (.int .i64 (put_6 c).vars)) ∧ EnvX (w.heap.size + 1) W0 bm l3 w')
            (first | exact hS | exact keep4 m_m m_at_ m_v m_room H18.out.x.drew | exact keep4 m_m m_at_ m_v m_room (Env.x (by assumption)) | exact keep4 m_m m_at_ m_v m_room (EnvX.drew (And.right (by assumption))) | exact keep4 m_m m_at_ m_v m_room (EnvX.alloc (Env.x (by assumption)) _) | exact keep4 m_m m_at_ m_v m_room (EnvX.alloc (And.right (by assumption)) _))
            (first | (go_at_call 40; (refine (load_any 0 3 hz_0 hz_3 H18.out.drew).mono ?_); rintro e w19 ⟨rfl, e190⟩; have e19 : Env (w.heap.size + 1) W0 bm l3 (n + 4) (put_19 c) ((put_8 c).blocks.length + 1) w19 := e190; clear e190) | (go_at_call 31; (refine (math_any ⟨#[43]⟩ (put_18 c).vars (put_1 c).vars (InI.vars H18.out) hr2 (by decide) e19).mono ?_); rintro e w20 ⟨rfl, e200⟩; have e20 : Env (w.heap.size + 1) W0 bm l3 (n + 2) (put_20 c) ((put_8 c).blocks.length + 1) w20 := e200; clear e200) | (go_at_call 48; (refine (store_any 0 3 (put_19 c).vars hz_0 hz_3 (InI.vars e19) e20).mono ?_); rintro e w21 ⟨rfl, e210⟩; have e21 : Env (w.heap.size + 1) W0 bm l3 (n + 1) (put_21 c) ((put_8 c).blocks.length + 1) w21 := e210; clear e210))
          all_goals
            have hr19 := InI.vars H18.out
            have hr20 := InI.vars e19
            have H21 := Lib.hid e21
            clear hS
            have q_m := H21.out.cell m_m
            have q_at_ := H21.out.cell m_at_
            have q_v := H21.out.cell m_v
            have q_room := H21.out.cell m_room
            go_wp2_with fail
            clear q_m q_at_ q_v q_room
            refine (back_any H21.out (Below.refl _ _) (rSlice_nil _ _ _ _)).mono ?_
            rintro e w22 ⟨rfl, e220⟩
            have e22 : Env (w.heap.size + 1) W0 bm l3 (n + 0) (put_22 c) ((put_8 c).blocks.length + 1) w22 := e220
            have H22 := Lib.hid e22
            clear e22 e220
            obtain ⟨hz1, hz2, gB, cB, ⟨d0, d1, d2, d3, d4, d5⟩, hrd⟩ := env_end H22.out
            obtain ⟨zc, zf⟩ := zero_cells w (HW0.out ▸ H22.out)
            have q_m := H22.out.cell m_m
            have z0 : w22.cell? ⟨w.heap.size, 0, none⟩ = some (.string ⟨#[]⟩) := zc 0
            have z1 : w22.cell? ⟨w.heap.size, 1, none⟩ = some (.int .i64 0) := zc 1
            have z2 : w22.cell? ⟨w.heap.size, 2, none⟩ = some (.int .i64 0) := zc 2
            have z3 : w22.cell? ⟨w.heap.size, 3, none⟩ = some (.int .i64 0) := zc 3
            have z4 : w22.cell? ⟨w.heap.size, 4, none⟩ = some (.int .i64 0) := zc 4
            have z5 : w22.cell? ⟨w.heap.size, 5, none⟩ = some (.slice none 0 0) := zc 5
            have y0 := zf 0
            have y1 := zf 1
            have y2 := zf 2
            have y3 := zf 3
            have y4 := zf 4
            have y5 := zf 5
            have hrd2 := Lib.hid hrd
            clear zc zf hrd
            go_wp2_with fail
            obtain ⟨V, hV, v0, v1, v2, v3, v4, v5, hs⟩ := box_six (.string (put_22 c).name) (.int .i64 (put_22 c).params) (.int .i64 (put_22 c).results) (.int .i64 (put_22 c).vars) (.int .i64 (put_22 c).slots) (.slice (some ⟨gB, 0, none⟩) (put_22 c).blocks.length cB) z0 z1 z2 z3 z4 z5
            rw [← hV]
            refine bodyPost_ret (v := .agg #[.string (put_22 c).name, .int .i64 (put_22 c).params, .int .i64 (put_22 c).results, .int .i64 (put_22 c).vars, .int .i64 (put_22 c).slots, .slice (some ⟨gB, 0, none⟩) (put_22 c).blocks.length cB]) (by simp [results, Try.results22, go_sem, v0, v1, v2, v3, v4, v5]) rfl ?_
            unfold put_C
            rw [← HC.out]
            exact code_post w (HW0.out ▸ H22.out) hs hrd2.out
end Go.Proofs.Ytaomlfbcfmmhlaa
