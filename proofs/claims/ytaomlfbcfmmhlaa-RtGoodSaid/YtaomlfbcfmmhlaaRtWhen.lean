/-
  rt's maker: when, walked: of whatever closure.
-/
import Derived.Test.YtaomlfbcfmmhlaaRtOps3
namespace Go.Proofs.Ytaomlfbcfmmhlaa
open Go.RowKit Go.Pst
set_option linter.unusedVariables false
set_option linter.unusedSimpArgs false

variable {B bm n k : Nat} {w0 w : World} {l : List (Nat × Nat × Value)} {c : PCode}

/-- A function of the program's own, entered when it is called. -/
def Enters (P : Program) (g : Nat) : Prop := ∀ (args : Array Value) (w : World), (callFunc g args).run P w = .ok (.enter g args) w
theorem enters_of {P : Program} {g : Nat} {fn : Func} (h : P.funcs[g]? = some fn) (hn : (fn.name == "runtime.NumGoroutine") = false) (hb : fn.body.isNone = false) : Enters P g := by
  intro args w
  have hn' : ¬ fn.name = "runtime.NumGoroutine" := by simpa using hn
  have hb' : ¬ fn.body = none := fun e => by rw [e] at hb; simp at hb
  simp [callFunc, h, hn', hb']

/-- Has a block its last instruction? -/
def endedF (b : List PInstr) : Bool := match b.getLast? with
  | none => false
  | some i => decide (9 ≤ i.op) && decide (i.op ≤ 13)
def whenIn (c : PCode) (k : Nat) (a : Int) : PCode := chooseF (blockF' (blockF' c)) k a c.blocks.length (c.blocks.length + 1)
def whenOut (c : PCode) (k : Nat) (on : Int) : PCode := if endedF c.blocks[k]! = true then c else jumpF c k on

theorem env_box6 (h : Env B w0 bm l n c k w) : w.cell? ⟨bm, 6, none⟩ = some (.int .i64 k) ∧ w.frozen? ⟨bm, 6, none⟩ = false := by
  obtain ⟨X, M, ⟨gB, cB, vs, hc⟩, hf⟩ := h
  exact ⟨hc.c6, hc.z 6⟩
theorem env_goto (h : Env B w0 bm l n c k w) {k' : Nat} (hk : k' < c.blocks.length) : Env B w0 bm l n c k' (w.setCell ⟨bm, 6, none⟩ (.int .i64 k')) := by
  obtain ⟨X, M, ⟨gB, cB, vs, hc⟩, hf, hl, hb, hB, hM⟩ := h
  exact env_box (hc.setBox 6 _ c k' (by decide) rfl hk hc.fit rfl rfl rfl rfl rfl rfl) hc.m_box (hf.goto hk) hl hb hB hM
theorem env_at (h : Env B w0 bm l n c k w) : k < c.blocks.length := h.fine.at_
/-- What is read of the block at which the maker stands. -/
theorem env_last (h : Env B w0 bm l n c k w) : ∃ gB cB av cv, w.cell? ⟨bm, 5, none⟩ = some (.slice (some ⟨gB, 0, none⟩) c.blocks.length cB) ∧ w.cell? ⟨gB, k, none⟩ = some (.slice av c.blocks[k]!.length cv) ∧
    (c.blocks[k]! = [] ∨ ∃ g i q, av = some ⟨g, 0, none⟩ ∧ c.blocks[k]!.length = q + 1 ∧ c.blocks[k]!.getLast? = some i ∧ w.cell? ⟨g, q * 6, none⟩ = some (.int .i64 i.op)) ∧ c.blocks[k]!.length ≤ 1000000 ∧ c.blocks.length ≤ 1000000 := by
  obtain ⟨X, M, ⟨gB, cB, vs, hc⟩, hf, -⟩ := h
  have hkv : k < vs.length := by rw [hc.len]; exact hc.at_
  have hblk := hc.blk k hc.at_ hkv
  have hbl := hf.len (c.blocks[k]'hc.at_) (List.getElem_mem hc.at_)
  have eL : c.blocks[k]'hc.at_ = c.blocks[k]! := by simp [hc.at_]
  rw [eL] at hblk hbl
  obtain ⟨gg, cc, hgv, -, -, hgl, hgc, hgz⟩ := row_at hc.row (i := k) (u := vs[k]) (by simp [hkv])
  obtain ⟨rfl, rfl⟩ : gB = gg ∧ cB = cc := by simpa using hgv
  obtain ⟨av, cv, hv, -, -⟩ := hblk.slice
  rw [hv] at hgc
  refine ⟨gB, cB, av, cv, by simpa using hc.c5, hgc, ?_, by omega, by have := hf.nb; omega⟩
  generalize c.blocks[k]! = L at *
  rcases List.eq_nil_or_concat L with rfl | ⟨L', i, rfl⟩
  · exact Or.inl rfl
  · right
    have hr := hblk.reads
    rw [hv] at hr
    obtain ⟨a, cap, ha, -, -, hcells⟩ := rBlock_val hr
    obtain ⟨rfl, rfl⟩ : av = a ∧ cv = cap := by simpa using ha
    obtain ⟨b, off, v1, v2, v5, e, -, -, hop, -⟩ := hcells L'.length (by simp)
    obtain ⟨ess, ho, -⟩ := hblk
    rw [hv] at ho
    rcases ho.2 with ⟨h0, _⟩ | ⟨g, cap', cur, hv', _⟩
    · simp at h0
    · obtain ⟨rfl, -⟩ : av = some ⟨g, 0, none⟩ ∧ cv = cap' := by simpa using hv'
      obtain ⟨rfl, rfl⟩ : g = b ∧ 0 = off := by simpa using e
      refine ⟨g, i, L'.length, rfl, by simp, by simp, ?_⟩
      simpa using hop

set_option maxHeartbeats 2000000 in
theorem when_any {g m : Nat} {ba lb : Array Value} {a : Int} {c3 : PCode} {k3 : Nat} (ha : InI a) (hg : Enters Try.prog g) (h : Env B w0 bm l (m + 3) c k w)
    (hdo : ∀ w1, Env B w0 bm l m (whenIn c k a) c.blocks.length w1 → Calls Try.prog g (ba ++ lb) w1 fun e w' => e = .returned (.tuple #[]) ∧ Env B w0 bm l (n + 1) c3 k3 w') (hlen : c.blocks.length + 1 < c3.blocks.length) :
    Calls Try.prog 36 #[.pointer (some ⟨bm, 0, none⟩), .int .i64 a, .func (.func g) ba lb] w fun e w' => e = .returned (.tuple #[]) ∧ Env B w0 bm l n (whenOut c3 k3 (c.blocks.length + 1)) (c.blocks.length + 1) w' := by
  have hnb : (c.blocks.length : Int) ≤ 1000000 := by have := h.fine.nb; omega
  have hnb0 : (0 : Int) ≤ c.blocks.length := by omega
  have hent := fun args w => hg args w
  have H := Lib.hid h
  have Hdo := Lib.hid hdo
  clear h hdo hg
  go_enter Try.func36, Try.ntmps36
  go_wp2_with fail
  refine (block_any H.out).mono ?_
  rintro e w1 ⟨rfl, h1⟩
  have H1 := Lib.hid h1
  clear h1
  go_wp2_with fail
  refine (block_any H1.out).mono ?_
  rintro e w2 ⟨rfl, h2⟩
  have hbb : ((blockF' c).blocks.length : Int) = c.blocks.length + 1 := by simp [blockF']
  rw [hbb]
  have H2 := Lib.hid h2
  clear h2 hbb
  go_wp2_with fail
  refine (choose_any a c.blocks.length (c.blocks.length + 1) ha (ini_small hnb0 hnb) (ini_small (by omega) (by have := H2.out.fine.nb; simp [blockF'] at this; omega)) H2.out).mono ?_
  rintro e w3 ⟨rfl, h3⟩
  obtain ⟨q6, z6⟩ := env_box6 h3
  have H3 := Lib.hid h3
  clear h3
  go_wp2_with fail
  have hin := env_goto H3.out (k' := c.blocks.length) (by rw [chooseF_len, blockF'_len, blockF'_len]; omega)
  clear q6 z6
  refine (Hdo.out _ hin).mono ?_
  rintro e w4 ⟨rfl, h4⟩
  obtain ⟨gB, cB, av, cv, r5, rg, hlast, hl1, hl2⟩ := env_last h4
  generalize hL3 : c3.blocks[k3]! = L3 at *
  have HL3 := Lib.hid hL3
  clear hL3
  obtain ⟨r6, z6⟩ := env_box6 h4
  have hk3 := env_at h4
  have hk31 : (k3 : Int) < c3.blocks.length := by omega
  have hk30 : (0 : Int) ≤ k3 := by omega
  have H4 := Lib.hid h4
  have Hlast := Lib.hid hlast
  clear h4 hin Hdo hlast
  go_wp2_with fail
  go_region_held3 (fun w' => w'.cell? ⟨bm, 5, none⟩ = some (.slice (some ⟨gB, 0, none⟩) c3.blocks.length cB) ∧ w'.cell? ⟨bm, 6, none⟩ = some (.int .i64 k3) ∧ w'.cell? ⟨gB, k3, none⟩ = some (.slice av L3.length cv)) (go_keep) (fail)
  have H5 := Lib.hid (H4.out.drew)
  have hlt : c.blocks.length + 1 < c3.blocks.length := hlen
  have z6' : w4.drew.frozen? ⟨bm, 6, none⟩ = false := z6
  have hgo : ((c.blocks.length + 1 : Nat) : Int) = (c.blocks.length : Int) + 1 := by simp
  have hgo2 : (c.blocks.length : Int) + 1 ≤ 1000000 := by omega
  rcases Hlast.out with rfl | ⟨gv, i, q, rfl, hq, hi, hop⟩
  · have he : whenOut c3 k3 (c.blocks.length + 1) = jumpF c3 k3 (c.blocks.length + 1) := by
      unfold whenOut endedF
      rw [HL3.out]
      rfl
    have He := Lib.hid he
    clear Hlast he
    go_wp2_with fail
    refine (jump_any (c.blocks.length + 1) (ini_small (by omega) hgo2) H5.out).mono ?_
    rintro e w6 ⟨rfl, h6⟩
    obtain ⟨s6, y6⟩ := env_box6 h6
    have hend := env_goto h6 (k' := c.blocks.length + 1) (by rw [jumpF_len]; omega)
    rw [hgo] at hend
    have Hend := Lib.hid hend
    clear h6 hend r5 r6 rg hgo
    go_wp2_with fail
    exact bodyPost_end (results_none (by kernel_rfl) _ _ _) rfl ⟨rfl, by rw [He.out]; exact Hend.out⟩
  · rw [hq]
    have hq1 : ((q + 1 : Nat) : Int) = (q : Int) + 1 := by simp
    have hql : (q : Int) + 1 ≤ 1000000 := by omega
    have hnz : ((q : Int) + 1 == 0) = false := by simp; omega
    have hop' : w4.drew.cell? ⟨gv, q * 6, none⟩ = some (.int .i64 i.op) := hop
    clear hop
    have Hgo := Lib.hid hgo
    have Hi := Lib.hid hi
    have Hq := Lib.hid hq
    clear Hlast hgo hi hq
    by_cases hE : 9 ≤ i.op ∧ i.op ≤ 13
    · have he : whenOut c3 k3 (c.blocks.length + 1) = c3 := by
        unfold whenOut endedF
        rw [HL3.out, Hi.out]
        simp [hE]
      have He := Lib.hid he
      have d1 : decide (i.op < 9) = false := by simp; omega
      have d2 : decide (13 < i.op) = false := by simp; omega
      have hend := env_goto (H5.out.weaken (Nat.le_succ _)) (k' := c.blocks.length + 1) hlt
      rw [Hgo.out] at hend
      have Hend := Lib.hid hend
      clear he hend hE
      go_wp2_with fail
      exact bodyPost_end (results_none (by kernel_rfl) _ _ _) rfl ⟨rfl, by rw [He.out]; exact Hend.out⟩
    · have he : whenOut c3 k3 (c.blocks.length + 1) = jumpF c3 k3 (c.blocks.length + 1) := by
        unfold whenOut endedF
        rw [HL3.out, Hi.out]
        have : (decide (9 ≤ i.op) && decide (i.op ≤ 13)) = false := by
          cases hb : (decide (9 ≤ i.op) && decide (i.op ≤ 13)) with
          | false => rfl
          | true => exact absurd (by simpa using hb) hE
        simp only [this, Bool.false_eq_true, if_false]
      have He := Lib.hid he
      clear he
      rcases d1 : decide (i.op < 9) with _ | _
      · have d2 : decide (13 < i.op) = true := by simp at d1 ⊢; omega
        have HE := Lib.hid hE
        clear hE
        go_wp2_with fail
        refine (jump_any (c.blocks.length + 1) (ini_small (by omega) hgo2) H5.out).mono ?_
        rintro e w6 ⟨rfl, h6⟩
        obtain ⟨s6, y6⟩ := env_box6 h6
        have hend := env_goto h6 (k' := c.blocks.length + 1) (by rw [jumpF_len]; omega)
        rw [Hgo.out] at hend
        have Hend := Lib.hid hend
        clear h6 hend r5 r6 rg
        go_wp2_with fail
        exact bodyPost_end (results_none (by kernel_rfl) _ _ _) rfl ⟨rfl, by rw [He.out]; exact Hend.out⟩
      · have HE := Lib.hid hE
        clear hE
        go_wp2_with fail
        refine (jump_any (c.blocks.length + 1) (ini_small (by omega) hgo2) H5.out).mono ?_
        rintro e w6 ⟨rfl, h6⟩
        obtain ⟨s6, y6⟩ := env_box6 h6
        have hend := env_goto h6 (k' := c.blocks.length + 1) (by rw [jumpF_len]; omega)
        rw [Hgo.out] at hend
        have Hend := Lib.hid hend
        clear h6 hend r5 r6 rg
        go_wp2_with fail
        exact bodyPost_end (results_none (by kernel_rfl) _ _ _) rfl ⟨rfl, by rw [He.out]; exact Hend.out⟩
end Go.Proofs.Ytaomlfbcfmmhlaa
