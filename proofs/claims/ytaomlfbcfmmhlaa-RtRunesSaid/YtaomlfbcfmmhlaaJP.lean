/-
  Texts joined: RtChar.
-/
import Derived.Test.YtaomlfbcfmmhlaaJH

/-
  rt's char, walked (printed by wip/gen_rtfn.py).
-/
namespace Go.Proofs.Ytaomlfbcfmmhlaa
open Go.RowKit Go.Pst
set_option linter.unusedVariables false
set_option linter.unusedSimpArgs false

def char_1 (c : PCode) : PCode := mathF c 0 ⟨#[43]⟩ 0 2
def char_2 (c : PCode) : PCode := loadF (char_1 c) 0 c.vars 0
def char_3 (c : PCode) : PCode := konstF (char_2 c) 0 128
def char_4 (c : PCode) : PCode := mathF (char_3 c) 0 ⟨#[60]⟩ (char_1 c).vars (char_2 c).vars
def char_5 (c : PCode) : PCode := whenOut (char1_F (whenIn (char_4 c) 0 (char_3 c).vars) (char_4 c).blocks.length (char_1 c).vars) (char1_K (whenIn (char_4 c) 0 (char_3 c).vars) (char_4 c).blocks.length (char_1 c).vars) (((char_4 c).blocks.length : Int) + 1)
def char_6 (c : PCode) : PCode := long_F (char_5 c) ((char_4 c).blocks.length + 1) (char_1 c).vars 194 223 2 128 191
def char_k6 (c : PCode) : Nat := long_K (char_5 c) ((char_4 c).blocks.length + 1) (char_1 c).vars 194
def char_7 (c : PCode) : PCode := long_F (char_6 c) (char_k6 c) (char_1 c).vars 224 224 3 160 191
def char_k7 (c : PCode) : Nat := long_K (char_6 c) (char_k6 c) (char_1 c).vars 224
def char_8 (c : PCode) : PCode := long_F (char_7 c) (char_k7 c) (char_1 c).vars 225 236 3 128 191
def char_k8 (c : PCode) : Nat := long_K (char_7 c) (char_k7 c) (char_1 c).vars 225
def char_9 (c : PCode) : PCode := long_F (char_8 c) (char_k8 c) (char_1 c).vars 237 237 3 128 159
def char_k9 (c : PCode) : Nat := long_K (char_8 c) (char_k8 c) (char_1 c).vars 237
def char_10 (c : PCode) : PCode := long_F (char_9 c) (char_k9 c) (char_1 c).vars 238 239 3 128 191
def char_k10 (c : PCode) : Nat := long_K (char_9 c) (char_k9 c) (char_1 c).vars 238
def char_11 (c : PCode) : PCode := long_F (char_10 c) (char_k10 c) (char_1 c).vars 240 240 4 144 191
def char_k11 (c : PCode) : Nat := long_K (char_10 c) (char_k10 c) (char_1 c).vars 240
def char_12 (c : PCode) : PCode := long_F (char_11 c) (char_k11 c) (char_1 c).vars 241 243 4 128 191
def char_k12 (c : PCode) : Nat := long_K (char_11 c) (char_k11 c) (char_1 c).vars 241
def char_13 (c : PCode) : PCode := long_F (char_12 c) (char_k12 c) (char_1 c).vars 244 244 4 128 143
def char_k13 (c : PCode) : Nat := long_K (char_12 c) (char_k12 c) (char_1 c).vars 244
def char_14 (c : PCode) : PCode := bad_F (char_13 c) (char_k13 c)
def char_C : PCode := char_14 (beginF ⟨#[95, 114, 117, 110, 101]⟩ 3 2)
set_option maxHeartbeats 16000000 in
theorem rt_char_any (w : World) : Calls Try.prog 24 #[] w (CodePost w char_C) := by
  have hz_0 : InI 0 := ini rfl
  have hz_128 : InI 128 := ini rfl
  have hz_143 : InI 143 := ini rfl
  have hz_144 : InI 144 := ini rfl
  have hz_159 : InI 159 := ini rfl
  have hz_160 : InI 160 := ini rfl
  have hz_191 : InI 191 := ini rfl
  have hz_194 : InI 194 := ini rfl
  have hz_2 : InI 2 := ini rfl
  have hz_223 : InI 223 := ini rfl
  have hz_224 : InI 224 := ini rfl
  have hz_225 : InI 225 := ini rfl
  have hz_236 : InI 236 := ini rfl
  have hz_237 : InI 237 := ini rfl
  have hz_238 : InI 238 := ini rfl
  have hz_239 : InI 239 := ini rfl
  have hz_240 : InI 240 := ini rfl
  have hz_241 : InI 241 := ini rfl
  have hz_243 : InI 243 := ini rfl
  have hz_244 : InI 244 := ini rfl
  go_enter Try.func24, Try.ntmps24
  go_wp2_with fail
  refine (start_any ⟨#[95, 114, 117, 110, 101]⟩ 3 2 (by decide) (by decide) (by decide) _).mono ?_
  rintro e w0 ⟨bm, rfl, e00⟩
  have e0 : Env (w.heap.size + 1) (w.alloc (.cells zeroCode 31)) bm [] 900000 (beginF ⟨#[95, 114, 117, 110, 101]⟩ 3 2) 0 w0 := by
    rw [World.size_alloc] at e00; exact e00
  clear e00
  obtain ⟨n, hn⟩ : ∃ n, 900000 = n + 3404 := ⟨900000 - 3404, by decide⟩
  obtain ⟨c, hc⟩ : ∃ c, c = beginF ⟨#[95, 114, 117, 110, 101]⟩ 3 2 := ⟨_, rfl⟩
  rw [← hc, hn] at e0
  have HC := Lib.hid hc
  clear hn hc
  obtain ⟨W0, hW0⟩ : ∃ W, W = w.alloc (.cells zeroCode 31) := ⟨_, rfl⟩
  rw [← hW0] at e0
  have HW0 := Lib.hid hW0
  clear hW0
  have b0 := e0.box (.pointer (some ⟨bm, 0, none⟩)) 54
  obtain ⟨l1, hl1⟩ : ∃ l, l = (w0.heap.size, 0, Value.pointer (some ⟨bm, 0, none⟩)) :: [] := ⟨_, rfl⟩
  rw [← hl1] at b0
  obtain ⟨V0, hV0⟩ : ∃ W, W = w0.alloc (.cells #[.pointer (some ⟨bm, 0, none⟩)] 54) := ⟨_, rfl⟩
  rw [← hV0] at b0
  have m_m : (w0.heap.size, 0, Value.pointer (some ⟨bm, 0, none⟩)) ∈ l1 := by rw [hl1]; exact List.mem_cons_self
  have HV0 := Lib.hid hV0
  have H0 := Lib.hid b0
  clear hV0 hl1 b0
  clear e0
  have q_m := H0.out.cell m_m
  rw [HV0.out] at q_m
  go_wp2_with fail
  rw [← HV0.out]
  try rw [show w0.heap.size + 1 = V0.heap.size from by rw [HV0.out, World.size_alloc]]
  clear q_m
  have hd0 := Env.drew H0.out
  have hS0 := hd0.cell m_m
  refine cut1 _ (fun b1 w' => InI c.vars ∧ InI (char_1 c).vars ∧ Env (w.heap.size + 1) W0 bm ((b1, 0, Value.int .i64 (char_1 c).vars) :: l1) (n + 3400) (char_2 c) 0 w') (by
    refine wp_region_held_drew (S := fun w' => w'.cell? ⟨w0.heap.size, 0, none⟩ = some (.pointer (some ⟨bm, 0, none⟩))) (by kernel_rfl) hS0 (fun hHeld => ?_)
    refine wpAnyH_take (i := 0) (v := ?_) rfl (by kernel_rfl) (by kernel_rfl) (by kernel_rfl) (fun _ _ _ h => h) (Or.inl ⟨by rfl, ?_⟩) (by assumption) ?_
    rotate_left
    · intro w hSw; (try dsimp only at hSw); go_simp; (first | done | with_reducible rfl)
    try simp only [Act.put, List.setIfInBounds_toArray, List.set_cons_zero, List.set_cons_succ]
    refine wpAnyH_take (i := 1) (v := ?_) rfl (by kernel_rfl) (by kernel_rfl) (by kernel_rfl) (fun _ _ _ h => h) (Or.inl ⟨by rfl, ?_⟩) (by assumption) ?_
    rotate_left
    · intro w hSw; (try dsimp only at hSw); go_simp; (first | done | with_reducible rfl)
    try simp only [Act.put, List.setIfInBounds_toArray, List.set_cons_zero, List.set_cons_succ]
    refine wpAnyH_ready (rs := [2, 4]) (by kernel_rfl) (by simp) ?_
    refine AllReadyH.cons rfl (fun K hK => ?_) (AllReadyH.cons rfl (fun K hK => ?_) AllReadyH.nil)
    · go_simp
      refine (math_any ⟨#[43]⟩ 0 2 hz_0 hz_2 (by decide) hd0).mono ?_
      rintro e v0 ⟨rfl, E0_⟩
      have E0 : Env (w.heap.size + 1) W0 bm _ (n + 3402) (char_1 c) 0 v0 := E0_
      clear E0_
      try go_wp2_with fail
      refine hK.out _ _ (E0.cell m_m) (fun hHeld => ?_)
      clear hK K
      try simp only [Act.put, List.setIfInBounds_toArray, List.set_cons_zero, List.set_cons_succ]
      have hr1 := InI.vars hd0
      refine wpAnyH_ready (rs := [3, 4]) (by kernel_rfl) (by simp) ?_
      refine AllReadyH.cons rfl (fun K hK => ?_) (AllReadyH.cons rfl (fun K hK => ?_) AllReadyH.nil)
      · go_simp
        refine (load_any c.vars 0 hr1 hz_0 E0).mono ?_
        rintro e v1 ⟨rfl, E1_⟩
        have E1 : Env (w.heap.size + 1) W0 bm _ (n + 3400) (char_2 c) 0 v1 := E1_
        clear E1_
        try go_wp2_with fail
        refine hK.out _ _ (E1.cell m_m) (fun hHeld => ?_)
        clear hK K
        try simp only [Act.put, List.setIfInBounds_toArray, List.set_cons_zero, List.set_cons_succ]
        have hr2 := InI.vars E0
        refine wpAnyH_ready (rs := [4]) (by kernel_rfl) (by simp) ?_
        refine AllReadyH.cons rfl (fun K hK => ?_) AllReadyH.nil
        have f1 := Env.base E1
        have g1 : ∀ p ∈ l1, p.1 < _ := fun p hp => Env.lt E1 hp
        have E2 := Env.box E1 (.int .i64 0) 3
        go_simp
        try simp only [World.size_drew] at f1 g1 E2
        obtain ⟨v2, hv2⟩ : ∃ V, V = World.alloc v1 (.cells #[.int .i64 0] 3) := ⟨_, rfl⟩
        rw [← hv2] at E2 ⊢
        clear hv2
        generalize v1.heap.size = b1 at f1 g1 E2 ⊢
        refine hK.out _ _ (E2.cell (List.mem_cons_of_mem _ m_m)) (fun hHeld => ?_)
        clear hK K
        try simp only [Act.put, List.setIfInBounds_toArray, List.set_cons_zero, List.set_cons_succ]
        refine wpAnyH_ready (rs := [5]) (by kernel_rfl) (by simp) ?_
        refine AllReadyH.cons rfl (fun K hK => ?_) AllReadyH.nil
        have qc := Env.cell E2 List.mem_cons_self
        have qz := Env.frozen E2 List.mem_cons_self
        go_simp
        clear qc qz
        have E3 := Env.poke (v' := .int .i64 (char_1 c).vars) E2 List.mem_cons_self f1 (fun p hp => ⟨List.mem_cons_of_mem _ hp, Nat.ne_of_lt (g1 p hp)⟩)
        obtain ⟨v3, hv3⟩ : ∃ V, V = World.setCell v2 ⟨b1, 0, none⟩ (.int .i64 (char_1 c).vars) := ⟨_, rfl⟩
        rw [← hv3] at E3 ⊢
        clear hv3
        refine hK.out _ _ (E3.cell (List.mem_cons_of_mem _ m_m)) (fun hHeld => ?_)
        clear hK K
        try simp only [Act.put, List.setIfInBounds_toArray, List.set_cons_zero, List.set_cons_succ]
        refine wpAnyH_done (by kernel_rfl) ?_ _
        exact ⟨b1, rfl, hr1, hr2, E3⟩
      · have f1 := Env.base E0
        have g1 : ∀ p ∈ l1, p.1 < _ := fun p hp => Env.lt E0 hp
        have E1 := Env.box E0 (.int .i64 0) 3
        go_simp
        try simp only [World.size_drew] at f1 g1 E1
        obtain ⟨v1, hv1⟩ : ∃ V, V = World.alloc v0 (.cells #[.int .i64 0] 3) := ⟨_, rfl⟩
        rw [← hv1] at E1 ⊢
        clear hv1
        generalize v0.heap.size = b1 at f1 g1 E1 ⊢
        refine hK.out _ _ (E1.cell (List.mem_cons_of_mem _ m_m)) (fun hHeld => ?_)
        clear hK K
        try simp only [Act.put, List.setIfInBounds_toArray, List.set_cons_zero, List.set_cons_succ]
        refine wpAnyH_ready (rs := [3]) (by kernel_rfl) (by simp) ?_
        refine AllReadyH.cons rfl (fun K hK => ?_) AllReadyH.nil
        go_simp
        refine (load_any c.vars 0 hr1 hz_0 E1).mono ?_
        rintro e v2 ⟨rfl, E2_⟩
        have E2 : Env (w.heap.size + 1) W0 bm _ (n + 3400) (char_2 c) 0 v2 := E2_
        clear E2_
        try go_wp2_with fail
        refine hK.out _ _ (E2.cell (List.mem_cons_of_mem _ m_m)) (fun hHeld => ?_)
        clear hK K
        try simp only [Act.put, List.setIfInBounds_toArray, List.set_cons_zero, List.set_cons_succ]
        have hr2 := InI.vars E1
        refine wpAnyH_ready (rs := [5]) (by kernel_rfl) (by simp) ?_
        refine AllReadyH.cons rfl (fun K hK => ?_) AllReadyH.nil
        have qc := Env.cell E2 List.mem_cons_self
        have qz := Env.frozen E2 List.mem_cons_self
        go_simp
        clear qc qz
        have E3 := Env.poke (v' := .int .i64 (char_1 c).vars) E2 List.mem_cons_self f1 (fun p hp => ⟨List.mem_cons_of_mem _ hp, Nat.ne_of_lt (g1 p hp)⟩)
        obtain ⟨v3, hv3⟩ : ∃ V, V = World.setCell v2 ⟨b1, 0, none⟩ (.int .i64 (char_1 c).vars) := ⟨_, rfl⟩
        rw [← hv3] at E3 ⊢
        clear hv3
        refine hK.out _ _ (E3.cell (List.mem_cons_of_mem _ m_m)) (fun hHeld => ?_)
        clear hK K
        try simp only [Act.put, List.setIfInBounds_toArray, List.set_cons_zero, List.set_cons_succ]
        refine wpAnyH_done (by kernel_rfl) ?_ _
        exact ⟨b1, rfl, hr1, hr2, E3⟩
    · have f1 := Env.base hd0
      have g1 : ∀ p ∈ l1, p.1 < _ := fun p hp => Env.lt hd0 hp
      have E0 : Env _ _ _ ((V0.heap.size, 0, .int .i64 0) :: _) _ _ _ ((World.alloc V0 (.cells #[.int .i64 0] 3)).drew) := Env.box hd0 (.int .i64 0) 3
      go_simp
      try simp only [World.size_drew] at f1 g1 E0
      obtain ⟨v0, hv0⟩ : ∃ V, V = (World.alloc V0 (.cells #[.int .i64 0] 3)).drew := ⟨_, rfl⟩
      rw [← hv0] at E0 ⊢
      clear hv0
      generalize V0.heap.size = b1 at f1 g1 E0 ⊢
      refine hK.out _ _ (E0.cell (List.mem_cons_of_mem _ m_m)) (fun hHeld => ?_)
      clear hK K
      try simp only [Act.put, List.setIfInBounds_toArray, List.set_cons_zero, List.set_cons_succ]
      refine wpAnyH_ready (rs := [2]) (by kernel_rfl) (by simp) ?_
      refine AllReadyH.cons rfl (fun K hK => ?_) AllReadyH.nil
      go_simp
      refine (math_any ⟨#[43]⟩ 0 2 hz_0 hz_2 (by decide) E0).mono ?_
      rintro e v1 ⟨rfl, E1_⟩
      have E1 : Env (w.heap.size + 1) W0 bm _ (n + 3402) (char_1 c) 0 v1 := E1_
      clear E1_
      try go_wp2_with fail
      refine hK.out _ _ (E1.cell (List.mem_cons_of_mem _ m_m)) (fun hHeld => ?_)
      clear hK K
      try simp only [Act.put, List.setIfInBounds_toArray, List.set_cons_zero, List.set_cons_succ]
      have hr1 := InI.vars E0
      refine wpAnyH_ready (rs := [3]) (by kernel_rfl) (by simp) ?_
      refine AllReadyH.cons rfl (fun K hK => ?_) AllReadyH.nil
      go_simp
      refine (load_any c.vars 0 hr1 hz_0 E1).mono ?_
      rintro e v2 ⟨rfl, E2_⟩
      have E2 : Env (w.heap.size + 1) W0 bm _ (n + 3400) (char_2 c) 0 v2 := E2_
      clear E2_
      try go_wp2_with fail
      refine hK.out _ _ (E2.cell (List.mem_cons_of_mem _ m_m)) (fun hHeld => ?_)
      clear hK K
      try simp only [Act.put, List.setIfInBounds_toArray, List.set_cons_zero, List.set_cons_succ]
      have hr2 := InI.vars E1
      refine wpAnyH_ready (rs := [5]) (by kernel_rfl) (by simp) ?_
      refine AllReadyH.cons rfl (fun K hK => ?_) AllReadyH.nil
      have qc := Env.cell E2 List.mem_cons_self
      have qz := Env.frozen E2 List.mem_cons_self
      go_simp
      clear qc qz
      have E3 := Env.poke (v' := .int .i64 (char_1 c).vars) E2 List.mem_cons_self f1 (fun p hp => ⟨List.mem_cons_of_mem _ hp, Nat.ne_of_lt (g1 p hp)⟩)
      obtain ⟨v3, hv3⟩ : ∃ V, V = World.setCell v2 ⟨b1, 0, none⟩ (.int .i64 (char_1 c).vars) := ⟨_, rfl⟩
      rw [← hv3] at E3 ⊢
      clear hv3
      refine hK.out _ _ (E3.cell (List.mem_cons_of_mem _ m_m)) (fun hHeld => ?_)
      clear hK K
      try simp only [Act.put, List.setIfInBounds_toArray, List.set_cons_zero, List.set_cons_succ]
      refine wpAnyH_done (by kernel_rfl) ?_ _
      exact ⟨b1, rfl, hr1, hr2, E3⟩) ?_
  clear hS0 hd0
  rintro x0_1 w2 ⟨hr1, hr2, e2⟩
  obtain ⟨l2, hl2⟩ : ∃ l, l = (x0_1, 0, Value.int .i64 (char_1 c).vars) :: l1 := ⟨_, rfl⟩
  rw [← hl2] at e2
  have m_m := (show _ ∈ l2 from hl2 ▸ (List.mem_cons_of_mem _ m_m))
  have m_b : (x0_1, 0, Value.int .i64 (char_1 c).vars) ∈ l2 := by rw [hl2]; exact List.mem_cons_self
  have H2 := Lib.hid e2
  clear e2 hl2
  have hS := keep2 m_m m_b H2.out.x
  go_wp2_with fail
  go_region_held3 (fun w' => (w'.cell? ⟨w0.heap.size, 0, none⟩ = some (.pointer (some ⟨bm, 0, none⟩)) ∧ w'.cell? ⟨x0_1, 0, none⟩ = some (.int .i64 (char_1 c).vars)) ∧ EnvX (w.heap.size + 1) W0 bm l2 w')
    (first | exact hS | exact keep2 m_m m_b H2.out.x.drew | exact keep2 m_m m_b (Env.x (by assumption)) | exact keep2 m_m m_b (EnvX.drew (And.right (by assumption))) | exact keep2 m_m m_b (EnvX.alloc (Env.x (by assumption)) _) | exact keep2 m_m m_b (EnvX.alloc (And.right (by assumption)) _))
    (first | (go_at_call 35; (refine (konst_any 128 hz_128 H2.out.drew).mono ?_); rintro e w3 ⟨rfl, e30⟩; have e3 : Env (w.heap.size + 1) W0 bm l2 (n + 3398) (char_3 c) 0 w3 := e30; clear e30) | (go_at_call 31; (refine (math_any ⟨#[60]⟩ (char_1 c).vars (char_2 c).vars hr2 (InI.vars H2.out) (by decide) e3).mono ?_); rintro e w4 ⟨rfl, e40⟩; have e4 : Env (w.heap.size + 1) W0 bm l2 (n + 3396) (char_4 c) 0 w4 := e40; clear e40) | (go_at_call 36; (refine (when_any (ba := #[]) (m := n + 3393) (n := n + 3389) (c3 := char1_F (whenIn (char_4 c) 0 (char_3 c).vars) (char_4 c).blocks.length (char_1 c).vars) (k3 := char1_K (whenIn (char_4 c) 0 (char_3 c).vars) (char_4 c).blocks.length (char_1 c).vars) (InI.vars e3) enters_char1 e4 (fun w2 e2 => by exact char1_any hr2 m_m m_b e2) (by rw [char1_len, whenIn_len]; omega)).mono ?_); rintro e w5 ⟨rfl, e50⟩; have e5 : Env (w.heap.size + 1) W0 bm l2 (n + 3389) (char_5 c) ((char_4 c).blocks.length + 1) w5 := e50; clear e50))
  all_goals
    have hr3 := InI.vars H2.out
    have hr4 := InI.vars e3
    have H5 := Lib.hid e5
    clear hS
    have q_m := H5.out.cell m_m
    have q_b := H5.out.cell m_b
    go_wp2_with fail
    clear q_m q_b
    refine (long_any (sz := 2) (by decide) hr2 hz_194 hz_223 hz_128 hz_191 H5.out).mono ?_
    rintro e w6 ⟨rfl, e60⟩
    have e6 : Env (w.heap.size + 1) W0 bm l2 (n + 2966) (char_6 c) (char_k6 c) w6 := e60
    have H6 := Lib.hid e6
    clear e6 e60
    have q_m := H6.out.cell m_m
    have q_b := H6.out.cell m_b
    go_wp2_with fail
    clear q_m q_b
    refine (long_any (sz := 3) (by decide) hr2 hz_224 hz_224 hz_160 hz_191 H6.out).mono ?_
    rintro e w7 ⟨rfl, e70⟩
    have e7 : Env (w.heap.size + 1) W0 bm l2 (n + 2543) (char_7 c) (char_k7 c) w7 := e70
    have H7 := Lib.hid e7
    clear e7 e70
    have q_m := H7.out.cell m_m
    have q_b := H7.out.cell m_b
    go_wp2_with fail
    clear q_m q_b
    refine (long_any (sz := 3) (by decide) hr2 hz_225 hz_236 hz_128 hz_191 H7.out).mono ?_
    rintro e w8 ⟨rfl, e80⟩
    have e8 : Env (w.heap.size + 1) W0 bm l2 (n + 2120) (char_8 c) (char_k8 c) w8 := e80
    have H8 := Lib.hid e8
    clear e8 e80
    have q_m := H8.out.cell m_m
    have q_b := H8.out.cell m_b
    go_wp2_with fail
    clear q_m q_b
    refine (long_any (sz := 3) (by decide) hr2 hz_237 hz_237 hz_128 hz_159 H8.out).mono ?_
    rintro e w9 ⟨rfl, e90⟩
    have e9 : Env (w.heap.size + 1) W0 bm l2 (n + 1697) (char_9 c) (char_k9 c) w9 := e90
    have H9 := Lib.hid e9
    clear e9 e90
    have q_m := H9.out.cell m_m
    have q_b := H9.out.cell m_b
    go_wp2_with fail
    clear q_m q_b
    refine (long_any (sz := 3) (by decide) hr2 hz_238 hz_239 hz_128 hz_191 H9.out).mono ?_
    rintro e w10 ⟨rfl, e100⟩
    have e10 : Env (w.heap.size + 1) W0 bm l2 (n + 1274) (char_10 c) (char_k10 c) w10 := e100
    have H10 := Lib.hid e10
    clear e10 e100
    have q_m := H10.out.cell m_m
    have q_b := H10.out.cell m_b
    go_wp2_with fail
    clear q_m q_b
    refine (long_any (sz := 4) (by decide) hr2 hz_240 hz_240 hz_144 hz_191 H10.out).mono ?_
    rintro e w11 ⟨rfl, e110⟩
    have e11 : Env (w.heap.size + 1) W0 bm l2 (n + 851) (char_11 c) (char_k11 c) w11 := e110
    have H11 := Lib.hid e11
    clear e11 e110
    have q_m := H11.out.cell m_m
    have q_b := H11.out.cell m_b
    go_wp2_with fail
    clear q_m q_b
    refine (long_any (sz := 4) (by decide) hr2 hz_241 hz_243 hz_128 hz_191 H11.out).mono ?_
    rintro e w12 ⟨rfl, e120⟩
    have e12 : Env (w.heap.size + 1) W0 bm l2 (n + 428) (char_12 c) (char_k12 c) w12 := e120
    have H12 := Lib.hid e12
    clear e12 e120
    have q_m := H12.out.cell m_m
    have q_b := H12.out.cell m_b
    go_wp2_with fail
    clear q_m q_b
    refine (long_any (sz := 4) (by decide) hr2 hz_244 hz_244 hz_128 hz_143 H12.out).mono ?_
    rintro e w13 ⟨rfl, e130⟩
    have e13 : Env (w.heap.size + 1) W0 bm l2 (n + 5) (char_13 c) (char_k13 c) w13 := e130
    have H13 := Lib.hid e13
    clear e13 e130
    have q_m := H13.out.cell m_m
    have q_b := H13.out.cell m_b
    go_wp2_with fail
    clear q_m q_b
    refine (bad_any H13.out).mono ?_
    rintro e w14 ⟨rfl, e140⟩
    have e14 : Env (w.heap.size + 1) W0 bm l2 (n + 0) (char_14 c) (char_k13 c) w14 := e140
    have H14 := Lib.hid e14
    clear e14 e140
    obtain ⟨hz1, hz2, gB, cB, ⟨d0, d1, d2, d3, d4, d5⟩, hrd⟩ := env_end H14.out
    obtain ⟨zc, zf⟩ := zero_cells w (HW0.out ▸ H14.out)
    have q_m := H14.out.cell m_m
    have z0 : w14.cell? ⟨w.heap.size, 0, none⟩ = some (.string ⟨#[]⟩) := zc 0
    have z1 : w14.cell? ⟨w.heap.size, 1, none⟩ = some (.int .i64 0) := zc 1
    have z2 : w14.cell? ⟨w.heap.size, 2, none⟩ = some (.int .i64 0) := zc 2
    have z3 : w14.cell? ⟨w.heap.size, 3, none⟩ = some (.int .i64 0) := zc 3
    have z4 : w14.cell? ⟨w.heap.size, 4, none⟩ = some (.int .i64 0) := zc 4
    have z5 : w14.cell? ⟨w.heap.size, 5, none⟩ = some (.slice none 0 0) := zc 5
    have y0 := zf 0
    have y1 := zf 1
    have y2 := zf 2
    have y3 := zf 3
    have y4 := zf 4
    have y5 := zf 5
    have hrd2 := Lib.hid hrd
    clear zc zf hrd
    go_wp2_with fail
    obtain ⟨V, hV, v0, v1, v2, v3, v4, v5, hs⟩ := box_six (.string (char_14 c).name) (.int .i64 (char_14 c).params) (.int .i64 (char_14 c).results) (.int .i64 (char_14 c).vars) (.int .i64 (char_14 c).slots) (.slice (some ⟨gB, 0, none⟩) (char_14 c).blocks.length cB) z0 z1 z2 z3 z4 z5
    rw [← hV]
    refine bodyPost_ret (v := .agg #[.string (char_14 c).name, .int .i64 (char_14 c).params, .int .i64 (char_14 c).results, .int .i64 (char_14 c).vars, .int .i64 (char_14 c).slots, .slice (some ⟨gB, 0, none⟩) (char_14 c).blocks.length cB]) (by simp [results, Try.results24, go_sem, v0, v1, v2, v3, v4, v5]) rfl ?_
    unfold char_C
    rw [← HC.out]
    exact code_post w (HW0.out ▸ H14.out) hs hrd2.out
end Go.Proofs.Ytaomlfbcfmmhlaa
