/-
  rt's maker: block, konst, math, set, load, store, alloc, jump, choose, back, walked.
-/
import Derived.Test.YtaomlfbcfmmhlaaRtOps
namespace Go.Proofs.Ytaomlfbcfmmhlaa
open Go.RowKit Go.Pst
set_option linter.unusedVariables false
set_option linter.unusedSimpArgs false

variable {B bm n k : Nat} {w0 w : World} {l : List (Nat × Nat × Value)} {c : PCode}

theorem infoB : (Try.prog.info? 46).map (fun i => (i.zero, i.size, i.bytes)) = some (some (.slice none 0 0), 1, 24) := by kernel_rfl
theorem row_some {w : World} {base sz n : Nat} {e : TypeId} {v : Value} {xs : List Value} (h : w.ownsRow base e sz v (n + 1) xs) : ∃ g c, v = .slice (some ⟨g, 0, none⟩) (n + 1) c := by
  rcases h.2 with ⟨_, h0⟩ | ⟨g, cap, cur, hv, _⟩
  · omega
  · exact ⟨g, cap, hv⟩
set_option maxHeartbeats 2000000 in
theorem block_any (h : Env B w0 bm l (n + 1) c k w) :
    Calls Try.prog 69 #[.pointer (some ⟨bm, 0, none⟩)] w fun e w' => e = .returned (.int .i64 c.blocks.length) ∧ Env B w0 bm l n (blockF' c) k w' := by
  obtain ⟨X, M, ⟨gB, cB, vs, hc⟩, hf, hl, hb, hB, hM⟩ := h
  have c5 : w.cell? ⟨bm, 5, none⟩ = some (.slice (some ⟨gB, 0, none⟩) c.blocks.length cB) := by simpa using hc.c5
  have z5 := hc.z 5
  have hnb := hf.nb
  have hnb2 : c.blocks.length ≤ 9223372036854775807 := by omega
  have hbm := hc.lt
  have hgB := hc.gB_lt
  have hne := hc.ne
  obtain ⟨i0, hi0, hz0, hz1, hz2⟩ := info_parts infoB
  have Hrow := Lib.hid hc.row
  have Hc := Lib.hid hc
  have Hf := Lib.hid hf
  have Hl := Lib.hid hl
  have Hb := Lib.hid hb
  clear hc hf hl hb
  go_enter Try.func69, Try.ntmps69
  go_wp2_with (at_builtin; refine wpList_append_own_at _ rfl _ _ 29 rfl 0 46 i0 (.slice none 0 0) 1 24 Try.underlying29 hi0 hz0 hz1 hz2 rfl (by decide) (.slice (some ⟨gB, 0, none⟩) c.blocks.length cB) _ _ rfl (Hrow.out.alloc _) ⟨w.heap.size, 0, none⟩ 1 1 [.slice none 0 0] rfl rfl (cell_one_new _ _ _) (by intro u hu; simp at hu; subst hu; rfl) (by unfold maxLen; omega) (by omega) (Nat.zero_le _) ?_; intro v' w1 hown (hgrow : World.grownBy _ w1 (some gB)) hnil (hat : v'.ownBlock = some gB ∨ _); clear hnil; obtain ⟨g', c', hv'⟩ : ∃ g' c', v' = .slice (some ⟨g', 0, none⟩) (c.blocks.length + 1) c' := row_some hown; subst hv'; have e5 : w1.cell? ⟨bm, 5, none⟩ = some (.slice (some ⟨gB, 0, none⟩) c.blocks.length cB) := (by { rw [World.grownBy.cell_far hgrow ⟨bm, 5, none⟩ (by simp; omega) (by simp; exact fun e => hne e.symm)]; rw [World.cell?_alloc_lt _ _ _ hbm]; exact c5 }); have f5 : w1.frozen? ⟨bm, 5, none⟩ = false := (by { rw [World.grownBy.frozen_far hgrow ⟨bm, 5, none⟩ (by simp; omega) (by simp; exact fun e => hne e.symm)]; rw [World.frozen?_alloc_old _ _ _ (show bm ≠ w.heap.size by omega)]; exact z5 }))
  go_ret
  obtain ⟨M', hM1, hS, hM2⟩ := Hc.out.grow (ob := .cells #[.slice none 0 0] 46) rfl hown hgrow (hat.imp id (fun e => e))
  simp only [Nat.zero_add] at hM1 hS
  exact ⟨rfl, env_step Hc.out.x_.2.2 (Below.refl _ _) Hl.out Hb.out hB hM ⟨_, _, _, hM1⟩ hS hM2 Hf.out.block⟩
end Go.Proofs.Ytaomlfbcfmmhlaa
