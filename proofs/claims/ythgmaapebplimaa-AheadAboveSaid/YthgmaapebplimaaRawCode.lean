/-
  posternkeep.Code: it answers a program whose first function's code has blocks and fits in memory.
-/
import Derived.Test.YthgmaapebplimaaRawRest
import Derived.Test.YthgmaapebplimaaRawKA
import Derived.Test.YthgmaapebplimaaRawKB
import Derived.Test.YthgmaapebplimaaRawKC
import Derived.Test.YthgmaapebplimaaRawKD
namespace Go.Proofs.Ythgmaapebplimaa
open Go.RowKit Go.Pst
set_option linter.unusedVariables false
set_option linter.unusedSimpArgs false

set_option maxRecDepth 4000 in
set_option maxHeartbeats 40000000 in
theorem rawCode_any (l : List PRaw) (v : Value) (w : World) (h : rRaws (fun _ => True) w [v] l) : RawCode l v w := by
  unfold RawCode
  obtain ⟨a, cap, rfl, hle, hmax, hat⟩ := rRaws_val h
  have hm1 : (l.length : Int) ≤ 9223372036854775807 := by unfold maxLen at hmax; omega
  obtain ⟨m, hite, hm60, hml⟩ : ∃ m : Nat, (if (60 : Int) < (l.length : Int) then (60 : Int) else (l.length : Int)) = (m : Int) ∧ m ≤ 60 ∧ m ≤ l.length := ⟨min l.length 60, by split <;> omega, by omega, by omega⟩
  obtain ⟨m2, hite2, hm2⟩ : ∃ m2 : Nat, (if (6 : Int) < (m : Int) / 4 then (6 : Int) else (m : Int) / 4) = (m2 : Int) ∧ m2 ≤ 6 := ⟨min (m / 4) 6, by split <;> omega, by omega⟩
  have hmi : (m : Int) ≤ 60 := by omega
  have hmc : (m : Int) ≤ (cap : Int) := by omega
  have hmi2 : (m2 : Int) ≤ 6 := by omega
  obtain ⟨ii, hi0, hz0, hz1, hz2⟩ := info_parts infoI
  obtain ⟨ib, hib, hb0', hb1', hb2'⟩ := info_parts infoB
  go_enter Try.func19, Try.ntmps19
  go_wp2_with fail
  generalize hw0 : ((((((((((w.alloc (.cells #[.slice none 0 0, .slice none 0 0] 40)).alloc (.cells #[.int .i64 (1 + (m2 : Int))] 3)).alloc (.cells #[.int .i64 7, .int .i64 8, .int .i64 9] 3)).alloc (.cells #[.slice none 0 0, .slice (some ⟨w.heap.size + 1 + 1, 0, none⟩) 3 3] 40)).alloc (.cells #[.string ⟨#[109, 97, 105, 110]⟩, .int .i64 0, .int .i64 0, .int .i64 5, .int .i64 0, .slice none 0 0] 32)).alloc (.cells #[.int .i64 2] 3)).alloc (.cells #[.int .i64 0, .int .i64 1] 3)).alloc (.cells #[.int .i64 2] 3)).alloc (.cells #[.int .i64 3, .slice (some ⟨w.heap.size + 1 + 1 + 1 + 1 + 1, 0, none⟩) 1 1, .slice (some ⟨w.heap.size + 1 + 1 + 1 + 1 + 1 + 1, 0, none⟩) 2 2, .int .i64 0, .string ⟨#[45]⟩, .slice none 0 0, .int .i64 12, .slice none 0 0, .slice (some ⟨w.heap.size + 1 + 1 + 1 + 1 + 1 + 1 + 1, 0, none⟩) 1 1, .int .i64 0, .string ⟨#[]⟩, .slice none 0 0] 57)).alloc (.cells #[.slice (some ⟨w.heap.size + 1 + 1 + 1 + 1 + 1 + 1 + 1 + 1, 0, none⟩) 2 2] 55)).alloc (.cells #[.string ⟨#[103]⟩, .int .i64 2, .int .i64 1, .int .i64 3, .int .i64 0, .slice (some ⟨w.heap.size + 1 + 1 + 1 + 1 + 1 + 1 + 1 + 1 + 1, 0, none⟩) 1 1] 32) = w0
  have hb0 : Below w.heap.size w w0 := by
    rw [← hw0]
    repeat (first | exact Below.refl _ _ | refine Below.alloc ?_ (by simp <;> omega) _)
  have hsz0 : w0.heap.size = w.heap.size + 11 := by rw [← hw0]; simp
  have hget : ∀ k, k < 11 → w0.heap[w.heap.size + k]? = ([.cells #[.slice none 0 0, .slice none 0 0] 40, .cells #[.int .i64 (1 + (m2 : Int))] 3, .cells #[.int .i64 7, .int .i64 8, .int .i64 9] 3, .cells #[.slice none 0 0, .slice (some ⟨w.heap.size + 1 + 1, 0, none⟩) 3 3] 40, .cells #[.string ⟨#[109, 97, 105, 110]⟩, .int .i64 0, .int .i64 0, .int .i64 5, .int .i64 0, .slice none 0 0] 32, .cells #[.int .i64 2] 3, .cells #[.int .i64 0, .int .i64 1] 3, .cells #[.int .i64 2] 3, .cells #[.int .i64 3, .slice (some ⟨w.heap.size + 1 + 1 + 1 + 1 + 1, 0, none⟩) 1 1, .slice (some ⟨w.heap.size + 1 + 1 + 1 + 1 + 1 + 1, 0, none⟩) 2 2, .int .i64 0, .string ⟨#[45]⟩, .slice none 0 0, .int .i64 12, .slice none 0 0, .slice (some ⟨w.heap.size + 1 + 1 + 1 + 1 + 1 + 1 + 1, 0, none⟩) 1 1, .int .i64 0, .string ⟨#[]⟩, .slice none 0 0] 57, .cells #[.slice (some ⟨w.heap.size + 1 + 1 + 1 + 1 + 1 + 1 + 1 + 1, 0, none⟩) 2 2] 55, .cells #[.string ⟨#[103]⟩, .int .i64 2, .int .i64 1, .int .i64 3, .int .i64 0, .slice (some ⟨w.heap.size + 1 + 1 + 1 + 1 + 1 + 1 + 1 + 1 + 1, 0, none⟩) 1 1] 32] : List Obj)[k]? := fun k hk => by
    rw [← hw0]
    exact allocs_get [.cells #[.slice none 0 0, .slice none 0 0] 40, .cells #[.int .i64 (1 + (m2 : Int))] 3, .cells #[.int .i64 7, .int .i64 8, .int .i64 9] 3, .cells #[.slice none 0 0, .slice (some ⟨w.heap.size + 1 + 1, 0, none⟩) 3 3] 40, .cells #[.string ⟨#[109, 97, 105, 110]⟩, .int .i64 0, .int .i64 0, .int .i64 5, .int .i64 0, .slice none 0 0] 32, .cells #[.int .i64 2] 3, .cells #[.int .i64 0, .int .i64 1] 3, .cells #[.int .i64 2] 3, .cells #[.int .i64 3, .slice (some ⟨w.heap.size + 1 + 1 + 1 + 1 + 1, 0, none⟩) 1 1, .slice (some ⟨w.heap.size + 1 + 1 + 1 + 1 + 1 + 1, 0, none⟩) 2 2, .int .i64 0, .string ⟨#[45]⟩, .slice none 0 0, .int .i64 12, .slice none 0 0, .slice (some ⟨w.heap.size + 1 + 1 + 1 + 1 + 1 + 1 + 1, 0, none⟩) 1 1, .int .i64 0, .string ⟨#[]⟩, .slice none 0 0] 57, .cells #[.slice (some ⟨w.heap.size + 1 + 1 + 1 + 1 + 1 + 1 + 1 + 1, 0, none⟩) 2 2] 55, .cells #[.string ⟨#[103]⟩, .int .i64 2, .int .i64 1, .int .i64 3, .int .i64 0, .slice (some ⟨w.heap.size + 1 + 1 + 1 + 1 + 1 + 1 + 1 + 1 + 1, 0, none⟩) 1 1] 32] w k hk
  clear hw0
  have hcell : ∀ (k : Nat) (cs : Array Value) (t : TypeId) (fr : Nat × Nat), w0.heap[k]? = some (.cells cs t fr) → ∀ o, w0.cell? ⟨k, o, none⟩ = cs[o]? := by
    intro k cs t fr h o
    simp [World.cell?, h]
  have hfro : ∀ (k : Nat) (cs : Array Value) (t : TypeId), w0.heap[k]? = some (.cells cs t (0, 0)) → ∀ o, w0.frozen? ⟨k, o, none⟩ = false := by
    intro k cs t h o
    simp [World.frozen?, h]
  have fr := hfro _ _ _ (hget 0 (by decide))
  have fp := hfro _ _ _ (hget 3 (by decide))
  have fc := hfro _ _ _ (hget 4 (by decide))
  clear hfro
  have cr := hcell _ _ _ _ (hget 0 (by decide))
  have cm := hcell _ _ _ _ (hget 1 (by decide)) 0
  have cp := hcell _ _ _ _ (hget 3 (by decide))
  have cc := hcell _ _ _ _ (hget 4 (by decide))
  have cg := hcell _ _ _ _ (hget 10 (by decide))
  clear hget hcell
  have hcat : CAt (w.heap.size + 4) w0 (.slice none 0 0) [] w0 :=
    ⟨⟨rfl, rfl, rfl, Nat.le_refl _, fun _ _ _ => rfl⟩, by omega, cc 0, cc 1, cc 2, cc 3, cc 4, cc 5, fc, ⟨[], World.ownsRow_nil _ _ _ _, trivial⟩, by simp⟩
  obtain ⟨bm, hbm⟩ : ∃ bm, bm = w.heap.size + 1 := ⟨_, rfl⟩
  obtain ⟨bp, hbp⟩ : ∃ bp, bp = w.heap.size + 1 + 1 + 1 := ⟨_, rfl⟩
  obtain ⟨bc, hbc⟩ : ∃ bc, bc = w.heap.size + 1 + 1 + 1 + 1 := ⟨_, rfl⟩
  obtain ⟨bg, hbg⟩ : ∃ bg, bg = w.heap.size + 1 + 1 + 1 + 1 + 1 + 1 + 1 + 1 + 1 + 1 := ⟨_, rfl⟩
  rw [show w.heap.size + 4 = bc by omega] at hcat cc
  rw [show w.heap.size + 10 = bg by omega] at cg
  rw [show w.heap.size + 3 = bp by omega] at cp fp
  rw [show w.heap.size + 1 = bm by omega] at cm
  rw [← hbg, ← hbc, ← hbp, ← hbm]
  have Hat := Lib.hid hat
  have Hite := Lib.hid hite
  have Hite2 := Lib.hid hite2
  have Hbox := Lib.hid (And.intro hbm (And.intro hbp (And.intro hbc hbg)))
  have hlts : bm < bc ∧ bp < bc ∧ bc < bg ∧ bg < w0.heap.size ∧ w.heap.size < bm ∧ w.heap.size < bp := by omega
  have Hlts := Lib.hid hlts
  clear hat hite hite2 hbm hbp hbc hbg hlts
  have hctx : RawCtx w w0 m2 bm bp bc bg := ⟨hb0, Hlts.out, hm2, cm⟩
  have Hctx := Lib.hid hctx
  clear hctx
  refine wp_loop_ghost_k (OuterI w w0 a m cap m2 bm bp bc bg) (1 + m2) ⟨_, 0, _, [], rfl, ⟨rfl, rfl, rfl, rfl, rfl, rfl, rfl, rfl, rfl, rfl⟩, Nat.zero_le _, rfl, hcat, by omega⟩ ?_
  intro gk act wr hrel J K hJ hKK
  obtain ⟨t, b, vB, bs, rfl, ⟨hsize, h0, h2, h3, h4, h5, h6, h7, h42, h43⟩, hb, hbl, hC, hmes⟩ := hrel
  rw [frame240 t hsize, h0, h2, h3, h4, h5, h6, h7, h42, h43]
  clear hsize h0 h2 h3 h4 h5 h6 h7 h42 h43
  by_cases hlt : b < 1 + m2
  · have hL : (b : Int) < 1 + (m2 : Int) := by omega
    obtain ⟨l1, l2, l3, l4, l5, l6⟩ := Hlts.out
    have hsz2 := hC.since.size
    have cmw : wr.cell? ⟨bm, 0, none⟩ = some (.int .i64 (1 + (m2 : Int))) := (hC.since.cell (b := bm) (o := 0) (by omega) (by omega)).trans cm
    have hb6 : b ≤ 6 := by omega
    have hM : 0 < 1 + m2 := by omega
    obtain ⟨p, hp⟩ : ∃ p : Nat, p = b * m := ⟨_, rfl⟩
    obtain ⟨q, hq⟩ : ∃ q : Nat, q = (b + 1) * m := ⟨_, rfl⟩
    have hpI : (b : Int) * (m : Int) = (p : Int) := by rw [hp]; simp
    have hqI : ((b : Int) + 1) * (m : Int) = (q : Int) := by rw [hq]; simp
    have hp1 : p ≤ 6 * 60 := by rw [hp]; exact Nat.mul_le_mul hb6 hm60
    have hq1 : q ≤ 7 * 60 := by rw [hq]; exact Nat.mul_le_mul (by omega) hm60
    obtain ⟨lo, hlo⟩ : ∃ lo : Nat, lo = p / (1 + m2) := ⟨_, rfl⟩
    obtain ⟨hi, hhi⟩ : ∃ hi : Nat, hi = q / (1 + m2) := ⟨_, rfl⟩
    have hlohi : lo ≤ hi := by rw [hlo, hhi]; exact Nat.div_le_div_right (by rw [hp, hq]; exact Nat.mul_le_mul (by omega) (Nat.le_refl _))
    have him : hi ≤ m := by rw [hhi, hq]; exact Nat.div_le_of_le_mul (Nat.mul_le_mul (by omega) (Nat.le_refl _))
    have hloI : (p : Int) / (1 + (m2 : Int)) = (lo : Int) := by rw [hlo]; simp
    have hhiI : (q : Int) / (1 + (m2 : Int)) = (hi : Int) := by rw [hhi]; simp
    have hne0 : (1 : Int) + (m2 : Int) ≠ 0 := by omega
    have hp2 : (p : Int) ≤ 360 := by omega
    have hq2 : (q : Int) ≤ 420 := by omega
    have hloi : (lo : Int) ≤ (hi : Int) := by omega
    have hhim : (hi : Int) ≤ (m : Int) := by omega
    have hhic : (hi : Int) ≤ (cap : Int) := by omega
    have Hcm := Lib.hid cm
    have HC := Lib.hid hC
    have Hl := Lib.hid (And.intro hbl hb)
    have Hw := Lib.hid (And.intro hlt (And.intro hp (And.intro hq (And.intro hlo hhi))))
    clear hC hbl hb cr cp cc cg hcat fr fp fc hlt hp hq hlo hhi cm
    go_wp2_with fail
    go_region
    generalize haM : (if cap = lo then a else Option.map (fun x => x.add (lo * 4)) a) = aM
    obtain ⟨nM, hnM⟩ : ∃ nM, nM = hi - lo := ⟨_, rfl⟩
    obtain ⟨cM, hcM⟩ : ∃ cM, cM = cap - lo := ⟨_, rfl⟩
    have hmine : ∀ j (hj : j < nM), ∃ (bX oX : Nat) (r : PRaw), aM = some ⟨bX, oX, none⟩ ∧ bX < w.heap.size ∧
        w.cell? ⟨bX, oX + j * 4, none⟩ = some (.int .i64 r.kind) ∧ w.cell? ⟨bX, oX + j * 4 + 1, none⟩ = some (.int .i64 r.a) ∧ w.cell? ⟨bX, oX + j * 4 + 2, none⟩ = some (.int .i64 r.b) ∧ w.cell? ⟨bX, oX + j * 4 + 3, none⟩ = some (.int .i64 r.c) ∧
        InI r.kind ∧ InI r.a ∧ InI r.b ∧ InI r.c := by
      intro j hj
      obtain ⟨b, off, rfl, -, hb, e1, e2, e3, e4, e5⟩ := Hat.out (lo + j) (by omega)
      refine ⟨b, off + lo * 4, l[lo + j]'(by omega), ?_, hb, ?_, ?_, ?_, ?_, e5⟩
      · rw [← haM, if_neg (by omega)]; simp [Addr.add]
      · rw [← e1]; congr 2; omega
      · rw [← e2]; congr 2; omega
      · rw [← e3]; congr 2; omega
      · rw [← e4]; congr 2; omega
    have hnM60 : nM ≤ 60 := by omega
    rw [← hnM, ← hcM]
    have Hmine := Lib.hid hmine
    clear hmine haM hnM hcM
    have hC' := HC.out.later (w' := wr.drew) (Drawn.below (Drawn.drew _) _)
    have cmw' : wr.drew.cell? ⟨bm, 0, none⟩ = some (.int .i64 (1 + (m2 : Int))) := cmw
    have hszd : wr.drew.heap.size = wr.heap.size := rfl
    have HC' := Lib.hid hC'
    clear hC' HC
    generalize wr.drew = wo at *
    clear cmw
    go_wp2_with fail
    have HmineM := Lib.hid (show Mine w aM nM from Hmine.out)
    refine wp_loop_ghost_k (InnerI w w0 a aM m cap m2 bm bp bc bg b nM cM vB bs) nM ⟨_, 0, _, [], rfl, ⟨rfl, rfl, rfl, rfl, rfl, rfl, rfl, rfl, rfl, rfl⟩, rfl, rfl, rfl, rfl, rfl, Nat.zero_le _, rfl, HC'.out.out, by omega, hnM60⟩ ?_
    rintro gk2 act wr ⟨t, j, v, ls, rfl, hrel⟩ J2 K2 hJ2 hKK2
    have Hrel := Lib.hid hrel
    obtain ⟨⟨hsize, h0, h2, h3, h4, h5, h6, h7, h42, h43⟩, h9, h10, h61, h62, h63, hj, hjl, hI, hmes2, -⟩ := hrel
    by_cases hlt : j < nM
    · obtain ⟨bX, oX, r, haM, hbX, hrow⟩ := HmineM.out j hlt
      have hk1 := @pickF_in r.kind 12 (by decide)
      have hkc : pickF r.kind 12 = 0 ∨ pickF r.kind 12 = 1 ∨ pickF r.kind 12 = 2 ∨ pickF r.kind 12 = 3 ∨ pickF r.kind 12 = 4 ∨ pickF r.kind 12 = 5 ∨ pickF r.kind 12 = 6 ∨ pickF r.kind 12 = 7 ∨ pickF r.kind 12 = 8 ∨ pickF r.kind 12 = 9 ∨ pickF r.kind 12 = 10 ∨ pickF r.kind 12 = 11 := by omega
      rcases hkc with hk | hk | hk | hk | hk | hk | hk | hk | hk | hk | hk | hk
      · exact raw_kind0 Hctx.out Hrel.out hlt haM hbX hrow hk J2 K2 _ hJ2 hKK2
      · exact raw_kind1 Hctx.out Hrel.out hlt haM hbX hrow hk J2 K2 _ hJ2 hKK2
      · exact raw_kind2 Hctx.out Hrel.out hlt haM hbX hrow hk J2 K2 _ hJ2 hKK2
      · exact raw_kind3 Hctx.out Hrel.out hlt haM hbX hrow hk J2 K2 _ hJ2 hKK2
      · exact raw_kind4 Hctx.out Hrel.out hlt haM hbX hrow hk J2 K2 _ hJ2 hKK2
      · exact raw_kind5 Hctx.out Hrel.out hlt haM hbX hrow hk J2 K2 _ hJ2 hKK2
      · exact raw_kind6 Hctx.out Hrel.out hlt haM hbX hrow hk J2 K2 _ hJ2 hKK2
      · exact raw_kind7 Hctx.out Hrel.out hlt haM hbX hrow hk J2 K2 _ hJ2 hKK2
      · exact raw_kind8 Hctx.out Hrel.out hlt haM hbX hrow hk J2 K2 _ hJ2 hKK2
      · exact raw_kind9 Hctx.out Hrel.out hlt haM hbX hrow hk J2 K2 _ hJ2 hKK2
      · exact raw_kind10 Hctx.out Hrel.out hlt haM hbX hrow hk J2 K2 _ hJ2 hKK2
      · exact raw_kind11 Hctx.out Hrel.out hlt haM hbX hrow hk J2 K2 _ hJ2 hKK2
    · have hjn : j = nM := by omega
      subst hjn
      have hnlt : ¬ ((j : Int) < (j : Int)) := by omega
      have Hl2 := Hl.out
      have HI := Lib.hid hI
      have h91 := Hrel.out.2.1
      have h101 := Hrel.out.2.2.1
      have Hf := Lib.hid Hrel.out.1
      rw [frame240 t hsize, h0, h2, h3, h4, h5, h6, h7, h42, h43, h9, h10, h61, h62, h63]
      clear hsize h0 h2 h3 h4 h5 h6 h7 h42 h43 h9 h10 h61 h62 h63 hI
      rename_i Q0 K4 hK4 wr9 t9 K6 hK6 K5 hK5
      have HK5 := Lib.hid hK5
      have HK6 := Lib.hid hK6
      clear hK5 hK6
      obtain ⟨k', rfl⟩ : ∃ k', gk = k' + 1 := ⟨gk - 1, by omega⟩
      go_wp2_with fail
      refine HK5.out _ _ ?_
      refine raw_rest (t := _) Hctx.out HmineM.out ⟨rfl, rfl, rfl, rfl, rfl, rfl, rfl, rfl, rfl, rfl⟩ rfl rfl hjl HI.out hnM60 ⟨Hl2.1, Hl2.2, by omega⟩ K6 K K4 _ ?_
      rintro _ wz ⟨t, vB2, bs2, rfl, ⟨hsize, h0, h2, h3, h4, h5, h6, h7, h42, h43⟩, hbl2, hC2⟩
      refine HK6.out _ _ ?_
      rw [frame240 t hsize, h0, h2, h3, h4, h5, h6, h7, h42, h43]
      clear hsize h0 h2 h3 h4 h5 h6 h7 h42 h43
      go_wp2_with fail
      refine Handed.intro k' ?measure ?_
      rotate_left
      go_step
      rotate_left
      · omega
      · exact ⟨_, b + 1, vB2, bs2, rfl, ⟨rfl, rfl, rfl, rfl, rfl, rfl, rfl, rfl, rfl, rfl⟩, by omega, hbl2, hC2, by omega⟩
  · have hnlt : ¬ ((b : Int) < 1 + (m2 : Int)) := by omega
    obtain ⟨l1, l2, l3, l4, l5, l6⟩ := Hlts.out
    have hsz2 := hC.since.size
    have g0 : wr.cell? ⟨bg, 0, none⟩ = some (.string ⟨#[103]⟩) := (hC.since.cell (b := bg) (o := 0) l4 (by omega)).trans (cg 0)
    have g1 : wr.cell? ⟨bg, 1, none⟩ = some (.int .i64 2) := (hC.since.cell (b := bg) (o := 1) l4 (by omega)).trans (cg 1)
    have g2 : wr.cell? ⟨bg, 2, none⟩ = some (.int .i64 1) := (hC.since.cell (b := bg) (o := 2) l4 (by omega)).trans (cg 2)
    have g3 : wr.cell? ⟨bg, 3, none⟩ = some (.int .i64 3) := (hC.since.cell (b := bg) (o := 3) l4 (by omega)).trans (cg 3)
    have g4 : wr.cell? ⟨bg, 4, none⟩ = some (.int .i64 0) := (hC.since.cell (b := bg) (o := 4) l4 (by omega)).trans (cg 4)
    have g5 : wr.cell? ⟨bg, 5, none⟩ = some (.slice (some ⟨w.heap.size + 1 + 1 + 1 + 1 + 1 + 1 + 1 + 1 + 1, 0, none⟩) 1 1) := (hC.since.cell (b := bg) (o := 5) l4 (by omega)).trans (cg 5)
    have p0 : wr.cell? ⟨bp, 0, none⟩ = some (.slice none 0 0) := (hC.since.cell (b := bp) (o := 0) (by omega) (by omega)).trans (cp 0)
    have p1 : wr.cell? ⟨bp, 1, none⟩ = some (.slice (some ⟨w.heap.size + 1 + 1, 0, none⟩) 3 3) := (hC.since.cell (b := bp) (o := 1) (by omega) (by omega)).trans (cp 1)
    have r0 : wr.cell? ⟨w.heap.size, 0, none⟩ = some (.slice none 0 0) := (hC.since.cell (b := w.heap.size + 0) (o := 0) (by omega) (by omega)).trans (cr 0)
    have r1 : wr.cell? ⟨w.heap.size, 1, none⟩ = some (.slice none 0 0) := (hC.since.cell (b := w.heap.size + 0) (o := 1) (by omega) (by omega)).trans (cr 1)
    obtain ⟨aB, lB, kB, rfl⟩ : ∃ aB lB kB, vB = .slice aB lB kB := by
      obtain ⟨vs, h1, _⟩ := hC.row
      rcases h1.2 with ⟨rfl, _⟩ | ⟨g, cap, cur, rfl, _⟩
      · exact ⟨_, _, _, rfl⟩
      · exact ⟨_, _, _, rfl⟩
    have c0 := hC.c0
    have c1 := hC.c1
    have c2 := hC.c2
    have c3 := hC.c3
    have c4 := hC.c4
    have c5 := hC.c5
    have hne : w.heap.size ≠ bp ∧ w.heap.size ≠ bc := by omega
    have hsz := hC.since.size
    have fpw : ∀ j, wr.frozen? ⟨bp, j, none⟩ = false := fun j => (hC.since.frozen (b := bp) (by omega) (by omega)).trans (fp j)
    have frw : ∀ j, wr.frozen? ⟨w.heap.size, j, none⟩ = false := fun j => (hC.since.frozen (b := w.heap.size) (by omega) (by omega)).trans (fr j)
    have afr : ∀ (o : Obj) (b i : Nat), b < wr.heap.size → wr.frozen? ⟨b, i, none⟩ = false → (wr.alloc o).frozen? ⟨b, i, none⟩ = false := fun o b i hb e =>
      ((World.frozen?_of_block (w := wr) (a := ⟨b, i, none⟩) (Below.heap_alloc _ _ _ hb))).trans e
    have fpa := fun o j => afr o bp j (by omega) (fpw j)
    have fra := fun o j => afr o w.heap.size j (by omega) (frw j)
    clear afr
    have al : ∀ (o : Obj) (b i : Nat) (u : Value), b < wr.heap.size → wr.cell? ⟨b, i, none⟩ = some u → (wr.alloc o).cell? ⟨b, i, none⟩ = some u := fun o b i u hb e =>
      ((World.cell?_of_block (w := wr) (a := ⟨b, i, none⟩) (Below.heap_alloc _ _ _ hb))).trans e
    have p0a := fun o => al o bp 0 _ (by omega) p0
    have p1a := fun o => al o bp 1 _ (by omega) p1
    have r0a := fun o => al o w.heap.size 0 _ (by omega) r0
    have r1a := fun o => al o w.heap.size 1 _ (by omega) r1
    clear al hsz
    have HC := Lib.hid hC
    have Hb := Lib.hid hb0
    have Hl := Lib.hid (And.intro hbl hb)
    have Hnlt := Lib.hid hnlt
    clear hC hbl hb cr cp cc cg cm hcat hb0 hlt fr fp fc
    go_wp2_with fail
    refine bodyPost_ret (v := .agg #[.slice (some ⟨wr.heap.size, 0, none⟩) 2 2, .slice (some ⟨w.heap.size + 1 + 1, 0, none⟩) 3 3]) (by simp [results, Try.results19, go_sem, r0a, r1a, hne]) rfl ?_
    have key : ∀ W, Since (fun k => k = bp ∨ k = w.heap.size) (wr.alloc (.cells #[.string ⟨#[109, 97, 105, 110]⟩, .int .i64 0, .int .i64 0, .int .i64 5, .int .i64 0, .slice aB lB kB, .string ⟨#[103]⟩, .int .i64 2, .int .i64 1, .int .i64 3, .int .i64 0, .slice (some ⟨w.heap.size + 1 + 1 + 1 + 1 + 1 + 1 + 1 + 1 + 1, 0, none⟩) 1 1] 32)) W →
        ∃ b', (∃ x, Ending.returned (Value.agg #[Value.slice (some ⟨wr.heap.size, 0, none⟩) 2 2, Value.slice (some ⟨w.heap.size + 1 + 1, 0, none⟩) 3 3]) = Ending.returned (Value.agg #[Value.slice (some ⟨b', 0, none⟩) 2 2, x])) ∧ b' < W.heap.size ∧ ∃ x c,
          (W.cell? ⟨b', 0, none⟩ = some (.string c.name) ∧ W.cell? ⟨b', 1, none⟩ = some (.int .i64 c.params) ∧ W.cell? ⟨b', 2, none⟩ = some (.int .i64 c.results) ∧ W.cell? ⟨b', 3, none⟩ = some (.int .i64 c.vars) ∧ W.cell? ⟨b', 4, none⟩ = some (.int .i64 c.slots) ∧ W.cell? ⟨b', 5, none⟩ = some x) ∧
          rCode (fun _ => True) W [.string c.name, .int .i64 c.params, .int .i64 c.results, .int .i64 c.vars, .int .i64 c.slots, x] c ∧ FitCode c ∧ 0 < c.blocks.length ∧ Below w.heap.size w W := by
      intro W hs
      have hC := HC.out
      have hn : wr.heap.size ≠ bp ∧ wr.heap.size ≠ w.heap.size := by omega
      have hlt : wr.heap.size < (wr.alloc (.cells #[.string ⟨#[109, 97, 105, 110]⟩, .int .i64 0, .int .i64 0, .int .i64 5, .int .i64 0, .slice aB lB kB, .string ⟨#[103]⟩, .int .i64 2, .int .i64 1, .int .i64 3, .int .i64 0, .slice (some ⟨w.heap.size + 1 + 1 + 1 + 1 + 1 + 1 + 1 + 1 + 1, 0, none⟩) 1 1] 32)).heap.size := by simp
      have hc := fun o => hs.cell (b := wr.heap.size) (o := o) hlt (fun e => e.elim hn.1 hn.2)
      refine ⟨wr.heap.size, ⟨_, rfl⟩, Nat.lt_of_lt_of_le hlt hs.size, .slice aB lB kB, ⟨⟨#[109, 97, 105, 110]⟩, 0, 0, 5, 0, bs⟩, ⟨(hc 0).trans ?_, (hc 1).trans ?_, (hc 2).trans ?_, (hc 3).trans ?_, (hc 4).trans ?_, (hc 5).trans ?_⟩, ?_, hC.fits (by have := Hl.out; omega), by have := Hl.out; show 0 < bs.length; omega, ?_⟩
      · exact box_cell (Below.refl _ _) _
      · exact box_cell (Below.refl _ _) _
      · exact box_cell (Below.refl _ _) _
      · exact box_cell (Below.refl _ _) _
      · exact box_cell (Below.refl _ _) _
      · exact box_cell (Below.refl _ _) _
      · refine Good.keep (w := wr) (S := fun k => w0.heap.size ≤ k) ⟨Nat.le_trans (by simp) hs.size, fun k hk hS => ?_⟩ (fun _ _ _ => trivial) hC.reads
        exact (hs.block k (by simp; omega) (fun e => by omega)).trans (Below.heap_alloc _ _ _ hk)
      · have h1 : Below w.heap.size wr W := ((Since.alloc _ _ _).trans (hs.mono fun k e => e)).below (F := fun k => k = bp ∨ k = w.heap.size) (by omega) (fun k e => by omega)
        exact (Hb.out.trans (hC.since.below (by omega) (fun k e => by omega))).trans h1
    refine key _ ?_
    repeat (first | exact Since.refl _ _ | refine Since.trans ?_ ((Since.setCell _ _ _).mono (fun k e => by simp at e; omega)))

end Go.Proofs.Ythgmaapebplimaa
