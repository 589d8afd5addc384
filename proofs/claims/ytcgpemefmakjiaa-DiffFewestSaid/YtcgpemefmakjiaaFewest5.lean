/- Texts of this claim, merged: part 5. -/
import Derived.Test.YtcgpemefmakjiaaFewest3
import Derived.StillTailTactics
import Derived.Deep.QuietTactic
import Derived.BigQuiet
import Derived.Test.YtcgpemefmakjiaaFewest4
import Derived.RangeFuncNested
import Derived.RangeFuncBound
import Derived.RangeFuncCalls
import Derived.RangeFuncLeaves
import Derived.Shelf.Abstract
import Derived.Shelf.RegionOpen
import Derived.WalkKit
import Derived.OwnWalkIn
import Derived.TacticsInMore
import Derived.LoopNIn
import Derived.LoopIn
import Derived.Lib.Hide
import Derived.LoopTactic
import Derived.Sort.LoopGhostIn
import Derived.Test.YtcgpemefmakjiaaFewest2
namespace Go.Proofs.Ytcgpemefmakjiaa.PX
open Go.RowKit Go.Proofs.YtcgpemefmakjiaaW.PrintWords Go.Proofs.YtcgpemefmakjiaaW.PrintLast Go.Proofs.YtcgpemefmakjiaaW.PrintMore
set_option linter.unusedVariables false
set_option linter.unusedSimpArgs false
set_option maxHeartbeats 4000000 in
set_option maxRecDepth 100000 in
theorem apply_take16 (w W : World) (v : Value) (l : Wd) (f0 f1 f2 f3 f4 : Int) (A5 : Option Addr) (c5 : Nat) (f5 : List Int) (hB : Below w.heap.size w W) (hv : WRep W w.heap.size v l) (hr : Kd.C (Kd.int .i64) w A5 f5.length f5) (hc : f5.length ≤ c5)
  (hform : formedB f2 f3 f4 f5 = true) (hf0 : 0 ≤ f0) (hf1 : f0 < l.length) (rows : List (List Int)) (hk : l[f0.toNat]? = some rows) (hn : rows.length < 5864062014805) (hW : ∀ (i : Nat) r, rows[i]? = some r → r.length = (rd_L1 rows 0).length) (h5 : f5.length ≤ 10) (hz : 0 < rows.length) (hlen5 : f5.length = (rd_L1 rows 0).length) (h2 : f2 = -2) (hok : f1 = rows.length - 1) (heq : rd_L1 rows f1 ≠ f5) :
  Calls Try.prog 44 #[v, .agg #[.int .i64 f0, .int .i64 f1, .int .i64 f2, .int .i64 f3, .int .i64 f4, .slice A5 f5.length c5]] W fun e W' => e = .returned (.int .i64 16) ∧ WRep W' w.heap.size v l ∧ Below w.heap.size w W' := by
 have hu61 := Try.underlying61; have HB := Aside0.mk hB; have HR := Aside0.mk hr; have HC := Aside0.mk hc; have HV := Aside0.mk hv; obtain ⟨ad, c, rfl, hg⟩ := hv.known hk; have HG := Aside0.mk hg
 have hlen : l.length ≤ 9223372036854775807 := by
  obtain ⟨_, _, h⟩ := hv; obtain ⟨A, c, e, hl, _⟩ := h.top; exact hl
 obtain ⟨A2, c2, hy, hc2, hrows, hfy⟩ := hv.seen hk; have HC2 := Aside0.mk hc2
 have HOW := Aside0.mk (show ∀ b, (Value.slice A2 rows.length c2).ownBlock = some b → b < W.heap.size from by
  obtain ⟨cs, h, _⟩ := hv.grow hk hy
  exact own_lt h)
 have HW := Aside0.mk hW; have HK := Aside0.mk hk; have hfr := Aside0.mk hfy; have hb0 := decide_eq_true hf0; have hb1 := decide_eq_true hf1; have HF := Aside0.mk ((formedB_f f0 f1 f2 f3 f4 f5).trans (congrArg some hform)); obtain ⟨kn, hkn⟩ : ∃ k, k = f0.toNat := ⟨_, rfl⟩; clear hB hr hc hv hg hfy hc2 hW hk hform; have hd2 : decide (f2 < 0) = true := decide_eq_true (by omega); have hp0 : decide (0 < (rows.length : Int)) = true := decide_eq_true (by omega); have hp1 : decide (0 < rows.length) = true := decide_eq_true (by omega); have he1 : (f2 == -1) = false := beq_eq_false_iff_ne.2 (by omega); have he2 : (f2 == -2) = true := beq_iff_eq.2 h2; have hl0 : ((rows.length : Int) == 0) = false := beq_eq_false_iff_ne.2 (by omega); have HL5 := Aside0.mk h5; have ALEN := Aside0.mk hlen5; have hne : (f1 != (rows.length : Int) - 1) = false := bne_eq_false_iff_eq.2 hok
 have h1 : 0 ≤ f1 := by omega
 have h1b : f1 < rows.length := by omega
 obtain ⟨r0, hr0⟩ : ∃ r0, rows[0]? = some r0 := ⟨_, List.getElem?_eq_getElem (l := rows) (i := 0) (by omega)⟩; obtain ⟨ad2, A3, c3, rfl, hq, hc3, _⟩ := HV.out.record HK.out hy hr0
 have hrd : r0 = rd_L1 rows 0 := by simp [rd_L1, List.getD_eq_getElem?_getD, hr0]
 have HC3 := Aside0.mk hc3; clear hc3; have hl50 : (f5.length != r0.length) = false := bne_eq_false_iff_eq.2 (by rw [hrd]; exact hlen5); have hl51 : ((f5.length : Int) != (r0.length : Int)) = false := bne_eq_false_iff_eq.2 (by rw [hrd, hlen5]); rw [Addr.add_zero'] at hq; have qi : (0 < rows.length) = True := eq_true (by omega); clear hlen5 hrd; have Ah2 := Aside0.mk h2; clear h2; have Ahz := Aside0.mk hz; clear hz; have Ahok := Aside0.mk hok; clear hok
 go_enter Try.func44, Try.ntmps44
 go_upto_region 1 with (first | ((with_reducible refine gate_dst (N := 3) rfl ?_); (try (refine gate_guard (by rfl) ?_; dsimp only)); refine box_event ?hg (N := 3) ?hd (cs := #[.int .i64 f0, .int .i64 f1, .int .i64 f2, .int .i64 f3, .int .i64 f4, .slice A5 f5.length c5]) (t := 61) ?hr ?_; (case hd => rfl); (case hg => rfl); (case hr => first | (go_simp; done) | (go_simp; rfl)); intro gb hg w1 hbox hb1; have n0_ := Aside0.mk (below_step HB.out hb1); have n1_ := Aside0.mk (HV.out.below hb1); have n2_ := Aside0.mk (show gb < w1.heap.size from (Array.getElem?_eq_some_iff.1 hbox).1);  have n3_ := cell_below hb1 hy; clear hy; have hy := n3_; clear n3_; have HNG := Aside0.mk (fun b (hb : (Value.slice (some ad2) rows.length c2).ownBlock = some b) => (by have := HOW.out b hb; omega : b ≠ gb)); have n3_ := cell_below hb1 hq; clear hq; have hq := n3_; clear n3_; clear HB HV; have HB := n0_; have HV := n1_; have GL := n2_; clear n0_ n1_ n2_; have hz0 : w1.cell? ⟨gb, 0, none⟩ = some (.int .i64 f0) := (blk_cell hbox 0).trans rfl; have hz1 : w1.cell? ⟨gb, 1, none⟩ = some (.int .i64 f1) := (blk_cell hbox 1).trans rfl; have hz2 : w1.cell? ⟨gb, 2, none⟩ = some (.int .i64 f2) := (blk_cell hbox 2).trans rfl; have hz3 : w1.cell? ⟨gb, 3, none⟩ = some (.int .i64 f3) := (blk_cell hbox 3).trans rfl; have hz4 : w1.cell? ⟨gb, 4, none⟩ = some (.int .i64 f4) := (blk_cell hbox 4).trans rfl; have hz5 : w1.cell? ⟨gb, 5, none⟩ = some (.slice A5 f5.length c5) := (blk_cell hbox 5).trans rfl; clear hb1 hbox hg))
 go_cut [5] (fun v5 wc => v5 = .bool true ∧ w1 = wc)
 case first =>
  go_wp2
  go_meet
  case rel => exact ⟨rfl, rfl⟩
 case rest =>
  obtain ⟨rfl, rfl⟩ := hcut
  go_upto_region 2 with (fail)
  replace HB : Aside0 (Below w.heap.size w w1.drew) := ⟨below_drew HB.out⟩; replace HV : Aside0 (WRep w1.drew w.heap.size (.slice (some ad) l.length c) l) := HV; replace GL : Aside0 (gb < w1.drew.heap.size) := GL; replace hz0 : w1.drew.cell? ⟨gb, 0, none⟩ = some (.int .i64 f0) := hz0; replace hz1 : w1.drew.cell? ⟨gb, 1, none⟩ = some (.int .i64 f1) := hz1; replace hz2 : w1.drew.cell? ⟨gb, 2, none⟩ = some (.int .i64 f2) := hz2; replace hz3 : w1.drew.cell? ⟨gb, 3, none⟩ = some (.int .i64 f3) := hz3; replace hz4 : w1.drew.cell? ⟨gb, 4, none⟩ = some (.int .i64 f4) := hz4; replace hz5 : w1.drew.cell? ⟨gb, 5, none⟩ = some (.slice A5 f5.length c5) := hz5; replace hy : w1.drew.cell? (ad.add f0.toNat) = some (.slice (some ad2) rows.length c2) := hy; replace hq : w1.drew.cell? ad2 = some (.slice A3 r0.length c3) := hq; refine start_ (n := 34) (S := fun w' => w'.cell? ⟨gb, 0, none⟩ = some (.int .i64 f0) ∧ w'.cell? ⟨gb, 1, none⟩ = some (.int .i64 f1) ∧ w'.cell? ⟨gb, 2, none⟩ = some (.int .i64 f2) ∧ w'.cell? ⟨gb, 3, none⟩ = some (.int .i64 f3) ∧ w'.cell? ⟨gb, 4, none⟩ = some (.int .i64 f4) ∧ w'.cell? ⟨gb, 5, none⟩ = some (.slice A5 f5.length c5) ∧ w'.cell? (ad.add f0.toNat) = some (.slice (some ad2) rows.length c2) ∧ w'.cell? ad2 = some (.slice A3 r0.length c3)) (ds := []) #[O,O,O,O,O,O,O,O,O,O,O,O,O,O,O,O,O,O,O,O,O,O,O,O,O,O,O,O,O,O,O,O,O,O] (by kernel_rfl) rfl rfl ⟨hz0, hz1, hz2, hz3, hz4, hz5, hy, hq⟩ (fun hHeld => ?_); generalize w1.drew = w2 at HB HV GL hHeld hz0 hz1 hz2 hz3 hz4 hz5 hy hq ⊢; refine take_ (i := 0) (N := some 17) (v := ?_) (a' := ?_) #[I,O,O,O,O,O,O,O,O,O,O,O,O,O,O,O,O,O,O,O,O,O,O,O,O,O,O,O,O,O,O,O,O,O] rfl rfl (by kernel_rfl) (fun _ _ _ h => h) (Or.inl ⟨by rfl, ?_⟩) hHeld ?_ ?_; rotate_left; (· rintro w' ⟨s0, s1, s2, s3, s4, s5, s6, s7⟩; go_simp; with_reducible rfl); rotate_left; (· simp only [Act.put, sA_, sB_, sC_, i64_w, i32_w]; rfl); refine one_ (i := 1) (N := some 18) #[I,I,O,O,O,O,O,O,O,O,O,O,O,O,O,O,O,O,O,O,O,O,O,O,O,O,O,O,O,O,O,O,O,O] rfl rfl (by kernel_rfl) (by decide) (fun K hK => ?_); refine goes_ Try.func66 (by kernel_rfl) rfl #[.agg #[.int .i64 f0, .int .i64 f1, .int .i64 f2, .int .i64 f3, .int .i64 f4, .slice A5 f5.length c5]] (by rfl) rfl rfl (by simp only [List.map_toArray, List.map_cons, List.map_nil]; rfl) ?_
  with_reducible refine (diff_Change_formed.calls f0 f1 f2 f3 f4 A5 c5 f5 true w2 (Kd.C_below HR.out HB.out) HC.out HF.out).mono ?_
  rintro e w3 ⟨rfl, hb⟩; refine ⟨_, rfl, ?_⟩; have n0_ := Aside0.mk (below_step HB.out hb); have n1_ := Aside0.mk (HV.out.below hb); have n2_ := Aside0.mk (Nat.lt_of_lt_of_le GL.out hb.size); clear HB HV GL; have HB := n0_; have HV := n1_; have GL := n2_; clear n0_ n1_ n2_; replace hz0 := cell_below hb hz0; replace hz1 := cell_below hb hz1; replace hz2 := cell_below hb hz2; replace hz3 := cell_below hb hz3; replace hz4 := cell_below hb hz4; replace hz5 := cell_below hb hz5; replace hy := cell_below hb hy; replace hq := cell_below hb hq; clear hb; refine hK.out _ _ ⟨hz0, hz1, hz2, hz3, hz4, hz5, hy, hq⟩ (fun hHeld => ?_); clear hK K; refine norm_ (a' := ?_) ?_ ?_; rotate_left
  ·show Act.put _ (some 18) _ = _
   simp only [Act.put, sA_, sB_, sC_, i64_w, i32_w]; rfl
  refine pure_ (i := 2) (N := some 19) (v := ?_) (a' := ?_) #[I,I,I,O,O,O,O,O,O,O,O,O,O,O,O,O,O,O,O,O,O,O,O,O,O,O,O,O,O,O,O,O,O,O] rfl rfl (by kernel_rfl) (fun _ _ _ h => h) (Or.inl ⟨by rfl, ?_⟩) ?_ ?_; rotate_left; (· intro w'; go_simp; with_reducible rfl); rotate_left; (· simp only [Act.put, sA_, sB_, sC_, i64_w, i32_w]; rfl); refine pure_ (i := 3) (N := some 20) (v := ?_) (a' := ?_) #[I,I,I,I,O,O,O,O,O,O,O,O,O,O,O,O,O,O,O,O,O,O,O,O,O,O,O,O,O,O,O,O,O,O] rfl rfl (by kernel_rfl) (fun _ _ _ h => h) (Or.inl ⟨by rfl, ?_⟩) ?_ ?_; rotate_left; (· intro w'; go_simp; with_reducible rfl); rotate_left; (· simp only [Act.put, sA_, sB_, sC_, i64_w, i32_w]; rfl); refine pure_ (i := 4) (N := some 21) (v := ?_) (a' := ?_) #[I,I,I,I,I,O,O,O,O,O,O,O,O,O,O,O,O,O,O,O,O,O,O,O,O,O,O,O,O,O,O,O,O,O] rfl rfl (by kernel_rfl) (fun _ _ _ h => h) (Or.inl ⟨by rfl, ?_⟩) ?_ ?_; rotate_left; (· intro w'; go_simp; with_reducible rfl); rotate_left; (· simp only [Act.put, sA_, sB_, sC_, i64_w, i32_w]; rfl); refine take_ (i := 5) (N := some 22) (v := ?_) (a' := ?_) #[I,I,I,I,I,I,O,O,O,O,O,O,O,O,O,O,O,O,O,O,O,O,O,O,O,O,O,O,O,O,O,O,O,O] rfl rfl (by kernel_rfl) (fun _ _ _ h => h) (Or.inl ⟨by rfl, ?_⟩) hHeld ?_ ?_; rotate_left; (· rintro w' ⟨s0, s1, s2, s3, s4, s5, s6, s7⟩; go_simp; with_reducible rfl); rotate_left; (· simp only [Act.put, sA_, sB_, sC_, i64_w, i32_w]; rfl); refine pure_ (i := 6) (N := some 23) (v := ?_) (a' := ?_) #[I,I,I,I,I,I,I,O,O,O,O,O,O,O,O,O,O,O,O,O,O,O,O,O,O,O,O,O,O,O,O,O,O,O] rfl rfl (by kernel_rfl) (fun _ _ _ h => h) (Or.inl ⟨by rfl, ?_⟩) ?_ ?_; rotate_left; (· intro w'; go_simp; with_reducible rfl); rotate_left; (· simp only [Act.put, sA_, sB_, sC_, i64_w, i32_w]; rfl); refine pure_ (i := 7) (N := some 24) (v := ?_) (a' := ?_) #[I,I,I,I,I,I,I,I,O,O,O,O,O,O,O,O,O,O,O,O,O,O,O,O,O,O,O,O,O,O,O,O,O,O] rfl rfl (by kernel_rfl) (fun _ _ _ h => h) (Or.inl ⟨by rfl, ?_⟩) ?_ ?_
  rotate_left; (· intro w'; go_simp; with_reducible rfl); rotate_left; (· simp only [Act.put, sA_, sB_, sC_, i64_w, i32_w]; rfl); refine pure_ (i := 8) (N := some 25) (v := ?_) (a' := ?_) #[I,I,I,I,I,I,I,I,I,O,O,O,O,O,O,O,O,O,O,O,O,O,O,O,O,O,O,O,O,O,O,O,O,O] rfl rfl (by kernel_rfl) (fun _ _ _ h => h) (Or.inl ⟨by rfl, ?_⟩) ?_ ?_; rotate_left; (· intro w'; go_simp; with_reducible rfl); rotate_left; (· simp only [Act.put, sA_, sB_, sC_, i64_w, i32_w]; rfl); refine pure_ (i := 9) (N := some 26) (v := ?_) (a' := ?_) #[I,I,I,I,I,I,I,I,I,I,O,O,O,O,O,O,O,O,O,O,O,O,O,O,O,O,O,O,O,O,O,O,O,O] rfl rfl (by kernel_rfl) (fun _ _ _ h => h) (Or.inl ⟨by rfl, ?_⟩) ?_ ?_; rotate_left; (· intro w'; go_simp; with_reducible rfl); rotate_left; (· simp only [Act.put, sA_, sB_, sC_, i64_w, i32_w]; rfl); refine pure_ (i := 10) (N := some 27) (v := ?_) (a' := ?_) #[I,I,I,I,I,I,I,I,I,I,I,O,O,O,O,O,O,O,O,O,O,O,O,O,O,O,O,O,O,O,O,O,O,O] rfl rfl (by kernel_rfl) (fun _ _ _ h => h) (Or.inl ⟨by rfl, ?_⟩) ?_ ?_; rotate_left; (· intro w'; go_simp; with_reducible rfl); rotate_left; (· simp only [Act.put, sA_, sB_, sC_, i64_w, i32_w]; rfl); refine pure_ (i := 11) (N := some 28) (v := ?_) (a' := ?_) #[I,I,I,I,I,I,I,I,I,I,I,I,O,O,O,O,O,O,O,O,O,O,O,O,O,O,O,O,O,O,O,O,O,O] rfl rfl (by kernel_rfl) (fun _ _ _ h => h) (Or.inl ⟨by rfl, ?_⟩) ?_ ?_; rotate_left; (· intro w'; go_simp; with_reducible rfl); rotate_left; (· simp only [Act.put, sA_, sB_, sC_, i64_w, i32_w]; rfl); refine pure_ (i := 12) (N := some 29) (v := ?_) (a' := ?_) #[I,I,I,I,I,I,I,I,I,I,I,I,I,O,O,O,O,O,O,O,O,O,O,O,O,O,O,O,O,O,O,O,O,O] rfl rfl (by kernel_rfl) (fun _ _ _ h => h) (Or.inl ⟨by rfl, ?_⟩) ?_ ?_; rotate_left; (· intro w'; go_simp; with_reducible rfl); rotate_left; (· simp only [Act.put, sA_, sB_, sC_, i64_w, i32_w]; rfl); refine take_ (i := 13) (N := some 30) (v := ?_) (a' := ?_) #[I,I,I,I,I,I,I,I,I,I,I,I,I,I,O,O,O,O,O,O,O,O,O,O,O,O,O,O,O,O,O,O,O,O] rfl rfl (by kernel_rfl) (fun _ _ _ h => h) (Or.inl ⟨by rfl, ?_⟩) hHeld ?_ ?_
  rotate_left; (· rintro w' ⟨s0, s1, s2, s3, s4, s5, s6, s7⟩; go_simp; with_reducible rfl); rotate_left; (· simp only [Act.put, sA_, sB_, sC_, i64_w, i32_w]; rfl); refine pure_ (i := 14) (N := some 31) (v := ?_) (a' := ?_) #[I,I,I,I,I,I,I,I,I,I,I,I,I,I,I,O,O,O,O,O,O,O,O,O,O,O,O,O,O,O,O,O,O,O] rfl rfl (by kernel_rfl) (fun _ _ _ h => h) (Or.inl ⟨by rfl, ?_⟩) ?_ ?_; rotate_left; (· intro w'; go_simp; with_reducible rfl); rotate_left; (· simp only [Act.put, sA_, sB_, sC_, i64_w, i32_w]; rfl); refine take_ (i := 15) (N := some 32) (v := ?_) (a' := ?_) #[I,I,I,I,I,I,I,I,I,I,I,I,I,I,I,I,O,O,O,O,O,O,O,O,O,O,O,O,O,O,O,O,O,O] rfl rfl (by kernel_rfl) (fun _ _ _ h => h) (Or.inl ⟨by rfl, ?_⟩) hHeld ?_ ?_; rotate_left; (· rintro w' ⟨s0, s1, s2, s3, s4, s5, s6, s7⟩; go_simp; with_reducible rfl); rotate_left; (· simp only [Act.put, sA_, sB_, sC_, i64_w, i32_w]; rfl); refine pure_ (i := 16) (N := some 33) (v := ?_) (a' := ?_) #[I,I,I,I,I,I,I,I,I,I,I,I,I,I,I,I,I,O,O,O,O,O,O,O,O,O,O,O,O,O,O,O,O,O] rfl rfl (by kernel_rfl) (fun _ _ _ h => h) (Or.inl ⟨by rfl, ?_⟩) ?_ ?_; rotate_left; (· intro w'; go_simp; with_reducible rfl); rotate_left; (· simp only [Act.put, sA_, sB_, sC_, i64_w, i32_w]; rfl); refine pure_ (i := 17) (N := some 34) (v := ?_) (a' := ?_) #[I,I,I,I,I,I,I,I,I,I,I,I,I,I,I,I,I,I,O,O,O,O,O,O,O,O,O,O,O,O,O,O,O,O] rfl rfl (by kernel_rfl) (fun _ _ _ h => h) (Or.inl ⟨by rfl, ?_⟩) ?_ ?_; rotate_left; (· intro w'; go_simp; with_reducible rfl); rotate_left; (· simp only [Act.put, sA_, sB_, sC_, i64_w, i32_w]; rfl); refine pure_ (i := 18) (N := some 35) (v := ?_) (a' := ?_) #[I,I,I,I,I,I,I,I,I,I,I,I,I,I,I,I,I,I,I,O,O,O,O,O,O,O,O,O,O,O,O,O,O,O] rfl rfl (by kernel_rfl) (fun _ _ _ h => h) (Or.inl ⟨by rfl, ?_⟩) ?_ ?_; rotate_left; (· intro w'; go_simp; with_reducible rfl); rotate_left; (· simp only [Act.put, sA_, sB_, sC_, i64_w, i32_w]; rfl); refine pure_ (i := 19) (N := some 36) (v := ?_) (a' := ?_) #[I,I,I,I,I,I,I,I,I,I,I,I,I,I,I,I,I,I,I,I,O,O,O,O,O,O,O,O,O,O,O,O,O,O] rfl rfl (by kernel_rfl) (fun _ _ _ h => h) (Or.inl ⟨by rfl, ?_⟩) ?_ ?_
  rotate_left; (· intro w'; go_simp; with_reducible rfl); rotate_left; (· simp only [Act.put, sA_, sB_, sC_, i64_w, i32_w]; rfl); refine pure_ (i := 20) (N := some 37) (v := ?_) (a' := ?_) #[I,I,I,I,I,I,I,I,I,I,I,I,I,I,I,I,I,I,I,I,I,O,O,O,O,O,O,O,O,O,O,O,O,O] rfl rfl (by kernel_rfl) (fun _ _ _ h => h) (Or.inl ⟨by rfl, ?_⟩) ?_ ?_; rotate_left; (· intro w'; go_simp; with_reducible rfl); rotate_left; (· simp only [Act.put, sA_, sB_, sC_, i64_w, i32_w]; rfl); refine pure_ (i := 23) (N := some 40) (v := ?_) (a' := ?_) #[I,I,I,I,I,I,I,I,I,I,I,I,I,I,I,I,I,I,I,I,I,O,O,I,O,O,O,O,O,O,O,O,O,O] rfl rfl (by kernel_rfl) (fun _ _ _ h => h) (Or.inl ⟨by rfl, ?_⟩) ?_ ?_; rotate_left; (· intro w'; go_simp; with_reducible rfl); rotate_left; (· simp only [Act.put, sA_, sB_, sC_, i64_w, i32_w]; rfl); refine pure_ (i := 24) (N := some 41) (v := ?_) (a' := ?_) #[I,I,I,I,I,I,I,I,I,I,I,I,I,I,I,I,I,I,I,I,I,O,O,I,I,O,O,O,O,O,O,O,O,O] rfl rfl (by kernel_rfl) (fun _ _ _ h => h) (Or.inl ⟨by rfl, ?_⟩) ?_ ?_; rotate_left; (· intro w'; go_simp; with_reducible rfl); rotate_left; (· simp only [Act.put, sA_, sB_, sC_, i64_w, i32_w]; rfl); refine take_ (i := 21) (N := some 38) (v := ?_) (a' := ?_) #[I,I,I,I,I,I,I,I,I,I,I,I,I,I,I,I,I,I,I,I,I,I,O,I,I,O,O,O,O,O,O,O,O,O] rfl rfl (by kernel_rfl) (fun _ _ _ h => h) (Or.inl ⟨by rfl, ?_⟩) hHeld ?_ ?_; rotate_left; (· rintro w' ⟨s0, s1, s2, s3, s4, s5, s6, s7⟩; go_simp; with_reducible rfl); rotate_left; (· simp only [Act.put, sA_, sB_, sC_, i64_w, i32_w]; rfl); refine pure_ (i := 22) (N := some 39) (v := ?_) (a' := ?_) #[I,I,I,I,I,I,I,I,I,I,I,I,I,I,I,I,I,I,I,I,I,I,I,I,I,O,O,O,O,O,O,O,O,O] rfl rfl (by kernel_rfl) (fun _ _ _ h => h) (Or.inl ⟨by rfl, ?_⟩) ?_ ?_; rotate_left; (· intro w'; go_simp; with_reducible rfl); rotate_left; (· simp only [Act.put, sA_, sB_, sC_, i64_w, i32_w]; rfl); refine take_ (i := 25) (N := some 42) (v := ?_) (a' := ?_) #[I,I,I,I,I,I,I,I,I,I,I,I,I,I,I,I,I,I,I,I,I,I,I,I,I,I,O,O,O,O,O,O,O,O] rfl rfl (by kernel_rfl) (fun _ _ _ h => h) (Or.inl ⟨by rfl, ?_⟩) hHeld ?_ ?_
  rotate_left; (· rintro w' ⟨s0, s1, s2, s3, s4, s5, s6, s7⟩; go_simp; with_reducible rfl); rotate_left; (· simp only [Act.put, sA_, sB_, sC_, i64_w, i32_w]; rfl); refine pure_ (i := 26) (N := some 43) (v := ?_) (a' := ?_) #[I,I,I,I,I,I,I,I,I,I,I,I,I,I,I,I,I,I,I,I,I,I,I,I,I,I,I,O,O,O,O,O,O,O] rfl rfl (by kernel_rfl) (fun _ _ _ h => h) (Or.inl ⟨by rfl, ?_⟩) ?_ ?_; rotate_left; (· intro w'; go_simp; with_reducible rfl); rotate_left; (· simp only [Act.put, sA_, sB_, sC_, i64_w, i32_w]; rfl); refine take_ (i := 27) (N := some 44) (v := ?_) (a' := ?_) #[I,I,I,I,I,I,I,I,I,I,I,I,I,I,I,I,I,I,I,I,I,I,I,I,I,I,I,I,O,O,O,O,O,O] rfl rfl (by kernel_rfl) (fun _ _ _ h => h) (Or.inl ⟨by rfl, ?_⟩) hHeld ?_ ?_; rotate_left; (· rintro w' ⟨s0, s1, s2, s3, s4, s5, s6, s7⟩; go_simp; with_reducible rfl); rotate_left; (· simp only [Act.put, sA_, sB_, sC_, i64_w, i32_w]; rfl); refine pure_ (i := 28) (N := some 45) (v := ?_) (a' := ?_) #[I,I,I,I,I,I,I,I,I,I,I,I,I,I,I,I,I,I,I,I,I,I,I,I,I,I,I,I,I,O,O,O,O,O] rfl rfl (by kernel_rfl) (fun _ _ _ h => h) (Or.inl ⟨by rfl, ?_⟩) ?_ ?_; rotate_left; (· intro w'; go_simp; with_reducible rfl); rotate_left; (· simp only [Act.put, sA_, sB_, sC_, i64_w, i32_w]; rfl); refine take_ (i := 29) (N := some 46) (v := ?_) (a' := ?_) #[I,I,I,I,I,I,I,I,I,I,I,I,I,I,I,I,I,I,I,I,I,I,I,I,I,I,I,I,I,I,O,O,O,O] rfl rfl (by kernel_rfl) (fun _ _ _ h => h) (Or.inl ⟨by rfl, ?_⟩) hHeld ?_ ?_; rotate_left; (· rintro w' ⟨s0, s1, s2, s3, s4, s5, s6, s7⟩; go_simp; with_reducible rfl); rotate_left; (· simp only [Act.put, sA_, sB_, sC_, i64_w, i32_w]; rfl); refine pure_ (i := 30) (N := some 47) (v := ?_) (a' := ?_) #[I,I,I,I,I,I,I,I,I,I,I,I,I,I,I,I,I,I,I,I,I,I,I,I,I,I,I,I,I,I,I,O,O,O] rfl rfl (by kernel_rfl) (fun _ _ _ h => h) (Or.inl ⟨by rfl, ?_⟩) ?_ ?_; rotate_left; (· intro w'; go_simp; with_reducible rfl); rotate_left; (· simp only [Act.put, sA_, sB_, sC_, i64_w, i32_w]; rfl); refine pure_ (i := 31) (N := some 48) (v := ?_) (a' := ?_) #[I,I,I,I,I,I,I,I,I,I,I,I,I,I,I,I,I,I,I,I,I,I,I,I,I,I,I,I,I,I,I,I,O,O] rfl rfl (by kernel_rfl) (fun _ _ _ h => h) (Or.inl ⟨by rfl, ?_⟩) ?_ ?_
  rotate_left; (· intro w'; go_simp; with_reducible rfl); rotate_left; (· simp only [Act.put, sA_, sB_, sC_, i64_w, i32_w]; rfl); refine pure_ (i := 32) (N := some 49) (v := ?_) (a' := ?_) #[I,I,I,I,I,I,I,I,I,I,I,I,I,I,I,I,I,I,I,I,I,I,I,I,I,I,I,I,I,I,I,I,I,O] rfl rfl (by kernel_rfl) (fun _ _ _ h => h) (Or.inl ⟨by rfl, ?_⟩) ?_ ?_; rotate_left; (· intro w'; go_simp; with_reducible rfl); rotate_left; (· simp only [Act.put, sA_, sB_, sC_, i64_w, i32_w]; rfl); refine pure_ (i := 33) (N := some 50) (v := ?_) (a' := ?_) #[I,I,I,I,I,I,I,I,I,I,I,I,I,I,I,I,I,I,I,I,I,I,I,I,I,I,I,I,I,I,I,I,I,I] rfl rfl (by kernel_rfl) (fun _ _ _ h => h) (Or.inl ⟨by rfl, ?_⟩) ?_ ?_; rotate_left; (· intro w'; go_simp; with_reducible rfl); rotate_left; (· simp only [Act.put, sA_, sB_, sC_, i64_w, i32_w]; rfl); refine done_ (by kernel_rfl) ?_; obtain ⟨r1, hr1⟩ : ∃ r1, rows[f1.toNat]? = some r1 := ⟨_, List.getElem?_eq_getElem (l := rows) (i := f1.toNat) (by omega)⟩
  have hrd1 : rd_L1 rows f1 = r1 := by simp [rd_L1, List.getD_eq_getElem?_getD, hr1]
  obtain ⟨ad2', A4, c4, e4, hq4, hc4, hC4, _⟩ := HV.out.record HK.out hy hr1
  cases e4
  have HC4 := Aside0.mk hc4; have HC1 : Aside0 (Kd.C (Kd.int .i64) w3.drew A4 r1.length r1) := Aside0.mk hC4; clear hc4 hC4; have HEQ : Aside0 (slices_Equal_int_int.f (r1.length + 1) r1 f5 = some false) := ⟨by rw [slEq_f r1 f5 (by rw [HW.out _ _ hr1]; have := ALEN.out; have := HL5.out; omega)]; rw [hrd1] at heq; simp [heq]⟩; clear heq
  go_upto_region 20 with (fail)
  replace HB : Aside0 (Below w.heap.size w w3.drew) := ⟨below_drew HB.out⟩; replace HV : Aside0 (WRep w3.drew w.heap.size (.slice (some ad) l.length c) l) := HV; replace hz0 : w3.drew.cell? ⟨gb, 0, none⟩ = some (.int .i64 f0) := hz0; replace hz1 : w3.drew.cell? ⟨gb, 1, none⟩ = some (.int .i64 f1) := hz1; replace hz2 : w3.drew.cell? ⟨gb, 2, none⟩ = some (.int .i64 f2) := hz2; replace hz3 : w3.drew.cell? ⟨gb, 3, none⟩ = some (.int .i64 f3) := hz3; replace hz4 : w3.drew.cell? ⟨gb, 4, none⟩ = some (.int .i64 f4) := hz4; replace hz5 : w3.drew.cell? ⟨gb, 5, none⟩ = some (.slice A5 f5.length c5) := hz5; replace hy : w3.drew.cell? (ad.add f0.toNat) = some (.slice (some ad2) rows.length c2) := hy; replace hq4 : w3.drew.cell? (ad2.add f1.toNat) = some (.slice A4 r1.length c4) := hq4; refine start_ (n := 9) (S := fun w' => w'.cell? ⟨gb, 0, none⟩ = some (.int .i64 f0) ∧ w'.cell? ⟨gb, 1, none⟩ = some (.int .i64 f1) ∧ w'.cell? ⟨gb, 2, none⟩ = some (.int .i64 f2) ∧ w'.cell? ⟨gb, 3, none⟩ = some (.int .i64 f3) ∧ w'.cell? ⟨gb, 4, none⟩ = some (.int .i64 f4) ∧ w'.cell? ⟨gb, 5, none⟩ = some (.slice A5 f5.length c5) ∧ w'.cell? (ad.add f0.toNat) = some (.slice (some ad2) rows.length c2) ∧ w'.cell? (ad2.add f1.toNat) = some (.slice A4 r1.length c4)) (ds := []) #[O,O,O,O,O,O,O,O,O] (by kernel_rfl) rfl rfl ⟨hz0, hz1, hz2, hz3, hz4, hz5, hy, hq4⟩ (fun hHeld => ?_); generalize w3.drew = w4 at HV HB HC1 hHeld hz0 hz1 hz2 hz3 hz4 hz5 hy hq4 ⊢; refine pure_ (i := 0) (N := some 131) (v := ?_) (a' := ?_) #[I,O,O,O,O,O,O,O,O] rfl rfl (by kernel_rfl) (fun _ _ _ h => h) (Or.inl ⟨by rfl, ?_⟩) ?_ ?_; rotate_left; (· intro w'; go_simp; with_reducible rfl); rotate_left; (· simp only [Act.put, sA_, sB_, sC_, i64_w, i32_w]; rfl); refine pure_ (i := 1) (N := some 132) (v := ?_) (a' := ?_) #[I,I,O,O,O,O,O,O,O] rfl rfl (by kernel_rfl) (fun _ _ _ h => h) (Or.inl ⟨by rfl, ?_⟩) ?_ ?_; rotate_left; (· intro w'; go_simp; with_reducible rfl); rotate_left; (· simp only [Act.put, sA_, sB_, sC_, i64_w, i32_w]; rfl); refine pure_ (i := 5) (N := some 136) (v := ?_) (a' := ?_) #[I,I,O,O,O,I,O,O,O] rfl rfl (by kernel_rfl) (fun _ _ _ h => h) (Or.inl ⟨by rfl, ?_⟩) ?_ ?_; rotate_left; (· intro w'; go_simp; with_reducible rfl); rotate_left; (· simp only [Act.put, sA_, sB_, sC_, i64_w, i32_w]; rfl); refine take_ (i := 2) (N := some 133) (v := ?_) (a' := ?_) #[I,I,I,O,O,I,O,O,O] rfl rfl (by kernel_rfl) (fun _ _ _ h => h) (Or.inl ⟨by rfl, ?_⟩) hHeld ?_ ?_; rotate_left; (· rintro w' ⟨s0, s1, s2, s3, s4, s5, s6, s7⟩; go_simp; with_reducible rfl); rotate_left; (· simp only [Act.put, sA_, sB_, sC_, i64_w, i32_w]; rfl); refine pure_ (i := 3) (N := some 134) (v := ?_) (a' := ?_) #[I,I,I,I,O,I,O,O,O] rfl rfl (by kernel_rfl) (fun _ _ _ h => h) (Or.inl ⟨by rfl, ?_⟩) ?_ ?_
  rotate_left; (· intro w'; go_simp; with_reducible rfl); rotate_left; (· simp only [Act.put, sA_, sB_, sC_, i64_w, i32_w]; rfl); refine take_ (i := 4) (N := some 135) (v := ?_) (a' := ?_) #[I,I,I,I,I,I,O,O,O] rfl rfl (by kernel_rfl) (fun _ _ _ h => h) (Or.inl ⟨by rfl, ?_⟩) hHeld ?_ ?_; rotate_left; (· rintro w' ⟨s0, s1, s2, s3, s4, s5, s6, s7⟩; go_simp; with_reducible rfl); rotate_left; (· simp only [Act.put, sA_, sB_, sC_, i64_w, i32_w]; rfl); refine take_ (i := 6) (N := some 137) (v := ?_) (a' := ?_) #[I,I,I,I,I,I,I,O,O] rfl rfl (by kernel_rfl) (fun _ _ _ h => h) (Or.inl ⟨by rfl, ?_⟩) hHeld ?_ ?_; rotate_left; (· rintro w' ⟨s0, s1, s2, s3, s4, s5, s6, s7⟩; go_simp; with_reducible rfl); rotate_left; (· simp only [Act.put, sA_, sB_, sC_, i64_w, i32_w]; rfl); refine one_ (i := 7) (N := some 138) #[I,I,I,I,I,I,I,I,O] rfl rfl (by kernel_rfl) (by decide) (fun K hK => ?_); refine goes_ Try.func67 (by kernel_rfl) rfl #[.slice A4 r1.length c4, .slice A5 f5.length c5] (by rfl) rfl rfl (by simp only [List.map_toArray, List.map_cons, List.map_nil]; rfl) ?_
  with_reducible refine (slices_Equal_int_int.calls (r1.length + 1) A4 c4 r1 A5 c5 f5 false w4 HC1.out HC4.out (Kd.C_below HR.out HB.out) HC.out HEQ.out).mono ?_
  rintro e w5 ⟨rfl, hb5⟩; refine ⟨_, rfl, ?_⟩; have n0_ := Aside0.mk (below_step HB.out (Drawn0.below hb5)); have n1_ := Aside0.mk (HV.out.below (Drawn0.below hb5)); clear HB HV; have HB := n0_; have HV := n1_; clear n0_ n1_; replace hz0 := cell_below (Drawn0.below hb5) hz0; replace hz1 := cell_below (Drawn0.below hb5) hz1; replace hz2 := cell_below (Drawn0.below hb5) hz2; replace hz3 := cell_below (Drawn0.below hb5) hz3; replace hz4 := cell_below (Drawn0.below hb5) hz4; replace hz5 := cell_below (Drawn0.below hb5) hz5; replace hy := cell_below (Drawn0.below hb5) hy; replace hq4 := cell_below (Drawn0.below hb5) hq4; clear hb5; refine hK.out _ _ ⟨hz0, hz1, hz2, hz3, hz4, hz5, hy, hq4⟩ (fun hHeld => ?_); clear hK K; refine norm_ (a' := ?_) ?_ ?_; rotate_left
  ·show Act.put _ (some 138) _ = _
   simp only [Act.put, sA_, sB_, sC_, i64_w, i32_w]; rfl
  refine pure_ (i := 8) (N := some 139) (v := ?_) (a' := ?_) #[I,I,I,I,I,I,I,I,I] rfl rfl (by kernel_rfl) (fun _ _ _ h => h) (Or.inl ⟨by rfl, ?_⟩) ?_ ?_; rotate_left; (· intro w'; go_simp; with_reducible rfl); rotate_left; (· simp only [Act.put, sA_, sB_, sC_, i64_w, i32_w]; rfl); refine done_ (by kernel_rfl) ?_; go_wp2; go_ret; exact ⟨rfl, HV.out, by first | exact HB.out | exact pw_below_drewN HB.out _ | exact pw_below_drewN (pw_below_drewN HB.out _) _⟩
set_option maxHeartbeats 4000000 in
set_option maxRecDepth 100000 in
theorem apply_take0 (w W : World) (v : Value) (l : Wd) (f0 f1 f2 f3 f4 : Int) (A5 : Option Addr) (c5 : Nat) (f5 : List Int) (hB : Below w.heap.size w W) (hv : WRep W w.heap.size v l) (hr : Kd.C (Kd.int .i64) w A5 f5.length f5) (hc : f5.length ≤ c5)
  (hform : formedB f2 f3 f4 f5 = true) (hf0 : 0 ≤ f0) (hf1 : f0 < l.length) (rows : List (List Int)) (hk : l[f0.toNat]? = some rows) (hn : rows.length < 5864062014805) (hW : ∀ (i : Nat) r, rows[i]? = some r → r.length = (rd_L1 rows 0).length) (h5 : f5.length ≤ 10) (hz : 0 < rows.length) (hlen5 : f5.length = (rd_L1 rows 0).length) (h2 : f2 = -2) (hok : f1 = rows.length - 1) (heq : rd_L1 rows f1 = f5) :
  Calls Try.prog 44 #[v, .agg #[.int .i64 f0, .int .i64 f1, .int .i64 f2, .int .i64 f3, .int .i64 f4, .slice A5 f5.length c5]] W fun e W' => e = .returned (.int .i64 0) ∧ WRep W' w.heap.size v (l.set f0.toNat (rows.take f1.toNat)) ∧ Below w.heap.size w W' := by
 have hu61 := Try.underlying61; have HB := Aside0.mk hB; have HR := Aside0.mk hr; have HC := Aside0.mk hc; have HV := Aside0.mk hv; obtain ⟨ad, c, rfl, hg⟩ := hv.known hk; have HG := Aside0.mk hg
 have hlen : l.length ≤ 9223372036854775807 := by
  obtain ⟨_, _, h⟩ := hv; obtain ⟨A, c, e, hl, _⟩ := h.top; exact hl
 obtain ⟨A2, c2, hy, hc2, hrows, hfy⟩ := hv.seen hk; have HC2 := Aside0.mk hc2
 have HOW := Aside0.mk (show ∀ b, (Value.slice A2 rows.length c2).ownBlock = some b → b < W.heap.size from by
  obtain ⟨cs, h, _⟩ := hv.grow hk hy
  exact own_lt h)
 have HW := Aside0.mk hW; have HK := Aside0.mk hk; have hfr := Aside0.mk hfy; have hb0 := decide_eq_true hf0; have hb1 := decide_eq_true hf1; have HF := Aside0.mk ((formedB_f f0 f1 f2 f3 f4 f5).trans (congrArg some hform)); obtain ⟨kn, hkn⟩ : ∃ k, k = f0.toNat := ⟨_, rfl⟩; clear hB hr hc hv hg hfy hc2 hW hk hform; have hd2 : decide (f2 < 0) = true := decide_eq_true (by omega); have hp0 : decide (0 < (rows.length : Int)) = true := decide_eq_true (by omega); have hp1 : decide (0 < rows.length) = true := decide_eq_true (by omega); have he1 : (f2 == -1) = false := beq_eq_false_iff_ne.2 (by omega); have he2 : (f2 == -2) = true := beq_iff_eq.2 h2; have hl0 : ((rows.length : Int) == 0) = false := beq_eq_false_iff_ne.2 (by omega); have HL5 := Aside0.mk h5; have ALEN := Aside0.mk hlen5; have hne : (f1 != (rows.length : Int) - 1) = false := bne_eq_false_iff_eq.2 hok
 have h1 : 0 ≤ f1 := by omega
 have h1b : f1 < rows.length := by omega
 obtain ⟨r0, hr0⟩ : ∃ r0, rows[0]? = some r0 := ⟨_, List.getElem?_eq_getElem (l := rows) (i := 0) (by omega)⟩; obtain ⟨ad2, A3, c3, rfl, hq, hc3, _⟩ := HV.out.record HK.out hy hr0
 have hrd : r0 = rd_L1 rows 0 := by simp [rd_L1, List.getD_eq_getElem?_getD, hr0]
 have HC3 := Aside0.mk hc3; clear hc3; have hl50 : (f5.length != r0.length) = false := bne_eq_false_iff_eq.2 (by rw [hrd]; exact hlen5); have hl51 : ((f5.length : Int) != (r0.length : Int)) = false := bne_eq_false_iff_eq.2 (by rw [hrd, hlen5]); rw [Addr.add_zero'] at hq; have qi : (0 < rows.length) = True := eq_true (by omega); clear hlen5 hrd; have Ah2 := Aside0.mk h2; clear h2; have Ahz := Aside0.mk hz; clear hz; have Ahok := Aside0.mk hok; clear hok
 go_enter Try.func44, Try.ntmps44
 go_upto_region 1 with (first | ((with_reducible refine gate_dst (N := 3) rfl ?_); (try (refine gate_guard (by rfl) ?_; dsimp only)); refine box_event ?hg (N := 3) ?hd (cs := #[.int .i64 f0, .int .i64 f1, .int .i64 f2, .int .i64 f3, .int .i64 f4, .slice A5 f5.length c5]) (t := 61) ?hr ?_; (case hd => rfl); (case hg => rfl); (case hr => first | (go_simp; done) | (go_simp; rfl)); intro gb hg w1 hbox hb1; have n0_ := Aside0.mk (below_step HB.out hb1); have n1_ := Aside0.mk (HV.out.below hb1); have n2_ := Aside0.mk (show gb < w1.heap.size from (Array.getElem?_eq_some_iff.1 hbox).1);  have n3_ := cell_below hb1 hy; clear hy; have hy := n3_; clear n3_; have HNG := Aside0.mk (fun b (hb : (Value.slice (some ad2) rows.length c2).ownBlock = some b) => (by have := HOW.out b hb; omega : b ≠ gb)); have n3_ := cell_below hb1 hq; clear hq; have hq := n3_; clear n3_; clear HB HV; have HB := n0_; have HV := n1_; have GL := n2_; clear n0_ n1_ n2_; have hz0 : w1.cell? ⟨gb, 0, none⟩ = some (.int .i64 f0) := (blk_cell hbox 0).trans rfl; have hz1 : w1.cell? ⟨gb, 1, none⟩ = some (.int .i64 f1) := (blk_cell hbox 1).trans rfl; have hz2 : w1.cell? ⟨gb, 2, none⟩ = some (.int .i64 f2) := (blk_cell hbox 2).trans rfl; have hz3 : w1.cell? ⟨gb, 3, none⟩ = some (.int .i64 f3) := (blk_cell hbox 3).trans rfl; have hz4 : w1.cell? ⟨gb, 4, none⟩ = some (.int .i64 f4) := (blk_cell hbox 4).trans rfl; have hz5 : w1.cell? ⟨gb, 5, none⟩ = some (.slice A5 f5.length c5) := (blk_cell hbox 5).trans rfl; clear hb1 hbox hg))
 go_cut [5] (fun v5 wc => v5 = .bool true ∧ w1 = wc)
 case first =>
  go_wp2
  go_meet
  case rel => exact ⟨rfl, rfl⟩
 case rest =>
  obtain ⟨rfl, rfl⟩ := hcut
  go_upto_region 2 with (fail)
  replace HB : Aside0 (Below w.heap.size w w1.drew) := ⟨below_drew HB.out⟩; replace HV : Aside0 (WRep w1.drew w.heap.size (.slice (some ad) l.length c) l) := HV; replace GL : Aside0 (gb < w1.drew.heap.size) := GL; replace hz0 : w1.drew.cell? ⟨gb, 0, none⟩ = some (.int .i64 f0) := hz0; replace hz1 : w1.drew.cell? ⟨gb, 1, none⟩ = some (.int .i64 f1) := hz1; replace hz2 : w1.drew.cell? ⟨gb, 2, none⟩ = some (.int .i64 f2) := hz2; replace hz3 : w1.drew.cell? ⟨gb, 3, none⟩ = some (.int .i64 f3) := hz3; replace hz4 : w1.drew.cell? ⟨gb, 4, none⟩ = some (.int .i64 f4) := hz4; replace hz5 : w1.drew.cell? ⟨gb, 5, none⟩ = some (.slice A5 f5.length c5) := hz5; replace hy : w1.drew.cell? (ad.add f0.toNat) = some (.slice (some ad2) rows.length c2) := hy; replace hq : w1.drew.cell? ad2 = some (.slice A3 r0.length c3) := hq; refine start_ (n := 34) (S := fun w' => w'.cell? ⟨gb, 0, none⟩ = some (.int .i64 f0) ∧ w'.cell? ⟨gb, 1, none⟩ = some (.int .i64 f1) ∧ w'.cell? ⟨gb, 2, none⟩ = some (.int .i64 f2) ∧ w'.cell? ⟨gb, 3, none⟩ = some (.int .i64 f3) ∧ w'.cell? ⟨gb, 4, none⟩ = some (.int .i64 f4) ∧ w'.cell? ⟨gb, 5, none⟩ = some (.slice A5 f5.length c5) ∧ w'.cell? (ad.add f0.toNat) = some (.slice (some ad2) rows.length c2) ∧ w'.cell? ad2 = some (.slice A3 r0.length c3)) (ds := []) #[O,O,O,O,O,O,O,O,O,O,O,O,O,O,O,O,O,O,O,O,O,O,O,O,O,O,O,O,O,O,O,O,O,O] (by kernel_rfl) rfl rfl ⟨hz0, hz1, hz2, hz3, hz4, hz5, hy, hq⟩ (fun hHeld => ?_); generalize w1.drew = w2 at HB HV GL hHeld hz0 hz1 hz2 hz3 hz4 hz5 hy hq ⊢; refine take_ (i := 0) (N := some 17) (v := ?_) (a' := ?_) #[I,O,O,O,O,O,O,O,O,O,O,O,O,O,O,O,O,O,O,O,O,O,O,O,O,O,O,O,O,O,O,O,O,O] rfl rfl (by kernel_rfl) (fun _ _ _ h => h) (Or.inl ⟨by rfl, ?_⟩) hHeld ?_ ?_; rotate_left; (· rintro w' ⟨s0, s1, s2, s3, s4, s5, s6, s7⟩; go_simp; with_reducible rfl); rotate_left; (· simp only [Act.put, sA_, sB_, sC_, i64_w, i32_w]; rfl); refine one_ (i := 1) (N := some 18) #[I,I,O,O,O,O,O,O,O,O,O,O,O,O,O,O,O,O,O,O,O,O,O,O,O,O,O,O,O,O,O,O,O,O] rfl rfl (by kernel_rfl) (by decide) (fun K hK => ?_); refine goes_ Try.func66 (by kernel_rfl) rfl #[.agg #[.int .i64 f0, .int .i64 f1, .int .i64 f2, .int .i64 f3, .int .i64 f4, .slice A5 f5.length c5]] (by rfl) rfl rfl (by simp only [List.map_toArray, List.map_cons, List.map_nil]; rfl) ?_
  with_reducible refine (diff_Change_formed.calls f0 f1 f2 f3 f4 A5 c5 f5 true w2 (Kd.C_below HR.out HB.out) HC.out HF.out).mono ?_
  rintro e w3 ⟨rfl, hb⟩; refine ⟨_, rfl, ?_⟩; have n0_ := Aside0.mk (below_step HB.out hb); have n1_ := Aside0.mk (HV.out.below hb); have n2_ := Aside0.mk (Nat.lt_of_lt_of_le GL.out hb.size); clear HB HV GL; have HB := n0_; have HV := n1_; have GL := n2_; clear n0_ n1_ n2_; replace hz0 := cell_below hb hz0; replace hz1 := cell_below hb hz1; replace hz2 := cell_below hb hz2; replace hz3 := cell_below hb hz3; replace hz4 := cell_below hb hz4; replace hz5 := cell_below hb hz5; replace hy := cell_below hb hy; replace hq := cell_below hb hq; clear hb; refine hK.out _ _ ⟨hz0, hz1, hz2, hz3, hz4, hz5, hy, hq⟩ (fun hHeld => ?_); clear hK K; refine norm_ (a' := ?_) ?_ ?_; rotate_left
  ·show Act.put _ (some 18) _ = _
   simp only [Act.put, sA_, sB_, sC_, i64_w, i32_w]; rfl
  refine pure_ (i := 2) (N := some 19) (v := ?_) (a' := ?_) #[I,I,I,O,O,O,O,O,O,O,O,O,O,O,O,O,O,O,O,O,O,O,O,O,O,O,O,O,O,O,O,O,O,O] rfl rfl (by kernel_rfl) (fun _ _ _ h => h) (Or.inl ⟨by rfl, ?_⟩) ?_ ?_; rotate_left; (· intro w'; go_simp; with_reducible rfl); rotate_left; (· simp only [Act.put, sA_, sB_, sC_, i64_w, i32_w]; rfl); refine pure_ (i := 3) (N := some 20) (v := ?_) (a' := ?_) #[I,I,I,I,O,O,O,O,O,O,O,O,O,O,O,O,O,O,O,O,O,O,O,O,O,O,O,O,O,O,O,O,O,O] rfl rfl (by kernel_rfl) (fun _ _ _ h => h) (Or.inl ⟨by rfl, ?_⟩) ?_ ?_; rotate_left; (· intro w'; go_simp; with_reducible rfl); rotate_left; (· simp only [Act.put, sA_, sB_, sC_, i64_w, i32_w]; rfl); refine pure_ (i := 4) (N := some 21) (v := ?_) (a' := ?_) #[I,I,I,I,I,O,O,O,O,O,O,O,O,O,O,O,O,O,O,O,O,O,O,O,O,O,O,O,O,O,O,O,O,O] rfl rfl (by kernel_rfl) (fun _ _ _ h => h) (Or.inl ⟨by rfl, ?_⟩) ?_ ?_; rotate_left; (· intro w'; go_simp; with_reducible rfl); rotate_left; (· simp only [Act.put, sA_, sB_, sC_, i64_w, i32_w]; rfl); refine take_ (i := 5) (N := some 22) (v := ?_) (a' := ?_) #[I,I,I,I,I,I,O,O,O,O,O,O,O,O,O,O,O,O,O,O,O,O,O,O,O,O,O,O,O,O,O,O,O,O] rfl rfl (by kernel_rfl) (fun _ _ _ h => h) (Or.inl ⟨by rfl, ?_⟩) hHeld ?_ ?_; rotate_left; (· rintro w' ⟨s0, s1, s2, s3, s4, s5, s6, s7⟩; go_simp; with_reducible rfl); rotate_left; (· simp only [Act.put, sA_, sB_, sC_, i64_w, i32_w]; rfl); refine pure_ (i := 6) (N := some 23) (v := ?_) (a' := ?_) #[I,I,I,I,I,I,I,O,O,O,O,O,O,O,O,O,O,O,O,O,O,O,O,O,O,O,O,O,O,O,O,O,O,O] rfl rfl (by kernel_rfl) (fun _ _ _ h => h) (Or.inl ⟨by rfl, ?_⟩) ?_ ?_; rotate_left; (· intro w'; go_simp; with_reducible rfl); rotate_left; (· simp only [Act.put, sA_, sB_, sC_, i64_w, i32_w]; rfl); refine pure_ (i := 7) (N := some 24) (v := ?_) (a' := ?_) #[I,I,I,I,I,I,I,I,O,O,O,O,O,O,O,O,O,O,O,O,O,O,O,O,O,O,O,O,O,O,O,O,O,O] rfl rfl (by kernel_rfl) (fun _ _ _ h => h) (Or.inl ⟨by rfl, ?_⟩) ?_ ?_
  rotate_left; (· intro w'; go_simp; with_reducible rfl); rotate_left; (· simp only [Act.put, sA_, sB_, sC_, i64_w, i32_w]; rfl); refine pure_ (i := 8) (N := some 25) (v := ?_) (a' := ?_) #[I,I,I,I,I,I,I,I,I,O,O,O,O,O,O,O,O,O,O,O,O,O,O,O,O,O,O,O,O,O,O,O,O,O] rfl rfl (by kernel_rfl) (fun _ _ _ h => h) (Or.inl ⟨by rfl, ?_⟩) ?_ ?_; rotate_left; (· intro w'; go_simp; with_reducible rfl); rotate_left; (· simp only [Act.put, sA_, sB_, sC_, i64_w, i32_w]; rfl); refine pure_ (i := 9) (N := some 26) (v := ?_) (a' := ?_) #[I,I,I,I,I,I,I,I,I,I,O,O,O,O,O,O,O,O,O,O,O,O,O,O,O,O,O,O,O,O,O,O,O,O] rfl rfl (by kernel_rfl) (fun _ _ _ h => h) (Or.inl ⟨by rfl, ?_⟩) ?_ ?_; rotate_left; (· intro w'; go_simp; with_reducible rfl); rotate_left; (· simp only [Act.put, sA_, sB_, sC_, i64_w, i32_w]; rfl); refine pure_ (i := 10) (N := some 27) (v := ?_) (a' := ?_) #[I,I,I,I,I,I,I,I,I,I,I,O,O,O,O,O,O,O,O,O,O,O,O,O,O,O,O,O,O,O,O,O,O,O] rfl rfl (by kernel_rfl) (fun _ _ _ h => h) (Or.inl ⟨by rfl, ?_⟩) ?_ ?_; rotate_left; (· intro w'; go_simp; with_reducible rfl); rotate_left; (· simp only [Act.put, sA_, sB_, sC_, i64_w, i32_w]; rfl); refine pure_ (i := 11) (N := some 28) (v := ?_) (a' := ?_) #[I,I,I,I,I,I,I,I,I,I,I,I,O,O,O,O,O,O,O,O,O,O,O,O,O,O,O,O,O,O,O,O,O,O] rfl rfl (by kernel_rfl) (fun _ _ _ h => h) (Or.inl ⟨by rfl, ?_⟩) ?_ ?_; rotate_left; (· intro w'; go_simp; with_reducible rfl); rotate_left; (· simp only [Act.put, sA_, sB_, sC_, i64_w, i32_w]; rfl); refine pure_ (i := 12) (N := some 29) (v := ?_) (a' := ?_) #[I,I,I,I,I,I,I,I,I,I,I,I,I,O,O,O,O,O,O,O,O,O,O,O,O,O,O,O,O,O,O,O,O,O] rfl rfl (by kernel_rfl) (fun _ _ _ h => h) (Or.inl ⟨by rfl, ?_⟩) ?_ ?_; rotate_left; (· intro w'; go_simp; with_reducible rfl); rotate_left; (· simp only [Act.put, sA_, sB_, sC_, i64_w, i32_w]; rfl); refine take_ (i := 13) (N := some 30) (v := ?_) (a' := ?_) #[I,I,I,I,I,I,I,I,I,I,I,I,I,I,O,O,O,O,O,O,O,O,O,O,O,O,O,O,O,O,O,O,O,O] rfl rfl (by kernel_rfl) (fun _ _ _ h => h) (Or.inl ⟨by rfl, ?_⟩) hHeld ?_ ?_
  rotate_left; (· rintro w' ⟨s0, s1, s2, s3, s4, s5, s6, s7⟩; go_simp; with_reducible rfl); rotate_left; (· simp only [Act.put, sA_, sB_, sC_, i64_w, i32_w]; rfl); refine pure_ (i := 14) (N := some 31) (v := ?_) (a' := ?_) #[I,I,I,I,I,I,I,I,I,I,I,I,I,I,I,O,O,O,O,O,O,O,O,O,O,O,O,O,O,O,O,O,O,O] rfl rfl (by kernel_rfl) (fun _ _ _ h => h) (Or.inl ⟨by rfl, ?_⟩) ?_ ?_; rotate_left; (· intro w'; go_simp; with_reducible rfl); rotate_left; (· simp only [Act.put, sA_, sB_, sC_, i64_w, i32_w]; rfl); refine take_ (i := 15) (N := some 32) (v := ?_) (a' := ?_) #[I,I,I,I,I,I,I,I,I,I,I,I,I,I,I,I,O,O,O,O,O,O,O,O,O,O,O,O,O,O,O,O,O,O] rfl rfl (by kernel_rfl) (fun _ _ _ h => h) (Or.inl ⟨by rfl, ?_⟩) hHeld ?_ ?_; rotate_left; (· rintro w' ⟨s0, s1, s2, s3, s4, s5, s6, s7⟩; go_simp; with_reducible rfl); rotate_left; (· simp only [Act.put, sA_, sB_, sC_, i64_w, i32_w]; rfl); refine pure_ (i := 16) (N := some 33) (v := ?_) (a' := ?_) #[I,I,I,I,I,I,I,I,I,I,I,I,I,I,I,I,I,O,O,O,O,O,O,O,O,O,O,O,O,O,O,O,O,O] rfl rfl (by kernel_rfl) (fun _ _ _ h => h) (Or.inl ⟨by rfl, ?_⟩) ?_ ?_; rotate_left; (· intro w'; go_simp; with_reducible rfl); rotate_left; (· simp only [Act.put, sA_, sB_, sC_, i64_w, i32_w]; rfl); refine pure_ (i := 17) (N := some 34) (v := ?_) (a' := ?_) #[I,I,I,I,I,I,I,I,I,I,I,I,I,I,I,I,I,I,O,O,O,O,O,O,O,O,O,O,O,O,O,O,O,O] rfl rfl (by kernel_rfl) (fun _ _ _ h => h) (Or.inl ⟨by rfl, ?_⟩) ?_ ?_; rotate_left; (· intro w'; go_simp; with_reducible rfl); rotate_left; (· simp only [Act.put, sA_, sB_, sC_, i64_w, i32_w]; rfl); refine pure_ (i := 18) (N := some 35) (v := ?_) (a' := ?_) #[I,I,I,I,I,I,I,I,I,I,I,I,I,I,I,I,I,I,I,O,O,O,O,O,O,O,O,O,O,O,O,O,O,O] rfl rfl (by kernel_rfl) (fun _ _ _ h => h) (Or.inl ⟨by rfl, ?_⟩) ?_ ?_; rotate_left; (· intro w'; go_simp; with_reducible rfl); rotate_left; (· simp only [Act.put, sA_, sB_, sC_, i64_w, i32_w]; rfl); refine pure_ (i := 19) (N := some 36) (v := ?_) (a' := ?_) #[I,I,I,I,I,I,I,I,I,I,I,I,I,I,I,I,I,I,I,I,O,O,O,O,O,O,O,O,O,O,O,O,O,O] rfl rfl (by kernel_rfl) (fun _ _ _ h => h) (Or.inl ⟨by rfl, ?_⟩) ?_ ?_
  rotate_left; (· intro w'; go_simp; with_reducible rfl); rotate_left; (· simp only [Act.put, sA_, sB_, sC_, i64_w, i32_w]; rfl); refine pure_ (i := 20) (N := some 37) (v := ?_) (a' := ?_) #[I,I,I,I,I,I,I,I,I,I,I,I,I,I,I,I,I,I,I,I,I,O,O,O,O,O,O,O,O,O,O,O,O,O] rfl rfl (by kernel_rfl) (fun _ _ _ h => h) (Or.inl ⟨by rfl, ?_⟩) ?_ ?_; rotate_left; (· intro w'; go_simp; with_reducible rfl); rotate_left; (· simp only [Act.put, sA_, sB_, sC_, i64_w, i32_w]; rfl); refine pure_ (i := 23) (N := some 40) (v := ?_) (a' := ?_) #[I,I,I,I,I,I,I,I,I,I,I,I,I,I,I,I,I,I,I,I,I,O,O,I,O,O,O,O,O,O,O,O,O,O] rfl rfl (by kernel_rfl) (fun _ _ _ h => h) (Or.inl ⟨by rfl, ?_⟩) ?_ ?_; rotate_left; (· intro w'; go_simp; with_reducible rfl); rotate_left; (· simp only [Act.put, sA_, sB_, sC_, i64_w, i32_w]; rfl); refine pure_ (i := 24) (N := some 41) (v := ?_) (a' := ?_) #[I,I,I,I,I,I,I,I,I,I,I,I,I,I,I,I,I,I,I,I,I,O,O,I,I,O,O,O,O,O,O,O,O,O] rfl rfl (by kernel_rfl) (fun _ _ _ h => h) (Or.inl ⟨by rfl, ?_⟩) ?_ ?_; rotate_left; (· intro w'; go_simp; with_reducible rfl); rotate_left; (· simp only [Act.put, sA_, sB_, sC_, i64_w, i32_w]; rfl); refine take_ (i := 21) (N := some 38) (v := ?_) (a' := ?_) #[I,I,I,I,I,I,I,I,I,I,I,I,I,I,I,I,I,I,I,I,I,I,O,I,I,O,O,O,O,O,O,O,O,O] rfl rfl (by kernel_rfl) (fun _ _ _ h => h) (Or.inl ⟨by rfl, ?_⟩) hHeld ?_ ?_; rotate_left; (· rintro w' ⟨s0, s1, s2, s3, s4, s5, s6, s7⟩; go_simp; with_reducible rfl); rotate_left; (· simp only [Act.put, sA_, sB_, sC_, i64_w, i32_w]; rfl); refine pure_ (i := 22) (N := some 39) (v := ?_) (a' := ?_) #[I,I,I,I,I,I,I,I,I,I,I,I,I,I,I,I,I,I,I,I,I,I,I,I,I,O,O,O,O,O,O,O,O,O] rfl rfl (by kernel_rfl) (fun _ _ _ h => h) (Or.inl ⟨by rfl, ?_⟩) ?_ ?_; rotate_left; (· intro w'; go_simp; with_reducible rfl); rotate_left; (· simp only [Act.put, sA_, sB_, sC_, i64_w, i32_w]; rfl); refine take_ (i := 25) (N := some 42) (v := ?_) (a' := ?_) #[I,I,I,I,I,I,I,I,I,I,I,I,I,I,I,I,I,I,I,I,I,I,I,I,I,I,O,O,O,O,O,O,O,O] rfl rfl (by kernel_rfl) (fun _ _ _ h => h) (Or.inl ⟨by rfl, ?_⟩) hHeld ?_ ?_
  rotate_left; (· rintro w' ⟨s0, s1, s2, s3, s4, s5, s6, s7⟩; go_simp; with_reducible rfl); rotate_left; (· simp only [Act.put, sA_, sB_, sC_, i64_w, i32_w]; rfl); refine pure_ (i := 26) (N := some 43) (v := ?_) (a' := ?_) #[I,I,I,I,I,I,I,I,I,I,I,I,I,I,I,I,I,I,I,I,I,I,I,I,I,I,I,O,O,O,O,O,O,O] rfl rfl (by kernel_rfl) (fun _ _ _ h => h) (Or.inl ⟨by rfl, ?_⟩) ?_ ?_; rotate_left; (· intro w'; go_simp; with_reducible rfl); rotate_left; (· simp only [Act.put, sA_, sB_, sC_, i64_w, i32_w]; rfl); refine take_ (i := 27) (N := some 44) (v := ?_) (a' := ?_) #[I,I,I,I,I,I,I,I,I,I,I,I,I,I,I,I,I,I,I,I,I,I,I,I,I,I,I,I,O,O,O,O,O,O] rfl rfl (by kernel_rfl) (fun _ _ _ h => h) (Or.inl ⟨by rfl, ?_⟩) hHeld ?_ ?_; rotate_left; (· rintro w' ⟨s0, s1, s2, s3, s4, s5, s6, s7⟩; go_simp; with_reducible rfl); rotate_left; (· simp only [Act.put, sA_, sB_, sC_, i64_w, i32_w]; rfl); refine pure_ (i := 28) (N := some 45) (v := ?_) (a' := ?_) #[I,I,I,I,I,I,I,I,I,I,I,I,I,I,I,I,I,I,I,I,I,I,I,I,I,I,I,I,I,O,O,O,O,O] rfl rfl (by kernel_rfl) (fun _ _ _ h => h) (Or.inl ⟨by rfl, ?_⟩) ?_ ?_; rotate_left; (· intro w'; go_simp; with_reducible rfl); rotate_left; (· simp only [Act.put, sA_, sB_, sC_, i64_w, i32_w]; rfl); refine take_ (i := 29) (N := some 46) (v := ?_) (a' := ?_) #[I,I,I,I,I,I,I,I,I,I,I,I,I,I,I,I,I,I,I,I,I,I,I,I,I,I,I,I,I,I,O,O,O,O] rfl rfl (by kernel_rfl) (fun _ _ _ h => h) (Or.inl ⟨by rfl, ?_⟩) hHeld ?_ ?_; rotate_left; (· rintro w' ⟨s0, s1, s2, s3, s4, s5, s6, s7⟩; go_simp; with_reducible rfl); rotate_left; (· simp only [Act.put, sA_, sB_, sC_, i64_w, i32_w]; rfl); refine pure_ (i := 30) (N := some 47) (v := ?_) (a' := ?_) #[I,I,I,I,I,I,I,I,I,I,I,I,I,I,I,I,I,I,I,I,I,I,I,I,I,I,I,I,I,I,I,O,O,O] rfl rfl (by kernel_rfl) (fun _ _ _ h => h) (Or.inl ⟨by rfl, ?_⟩) ?_ ?_; rotate_left; (· intro w'; go_simp; with_reducible rfl); rotate_left; (· simp only [Act.put, sA_, sB_, sC_, i64_w, i32_w]; rfl); refine pure_ (i := 31) (N := some 48) (v := ?_) (a' := ?_) #[I,I,I,I,I,I,I,I,I,I,I,I,I,I,I,I,I,I,I,I,I,I,I,I,I,I,I,I,I,I,I,I,O,O] rfl rfl (by kernel_rfl) (fun _ _ _ h => h) (Or.inl ⟨by rfl, ?_⟩) ?_ ?_
  rotate_left; (· intro w'; go_simp; with_reducible rfl); rotate_left; (· simp only [Act.put, sA_, sB_, sC_, i64_w, i32_w]; rfl); refine pure_ (i := 32) (N := some 49) (v := ?_) (a' := ?_) #[I,I,I,I,I,I,I,I,I,I,I,I,I,I,I,I,I,I,I,I,I,I,I,I,I,I,I,I,I,I,I,I,I,O] rfl rfl (by kernel_rfl) (fun _ _ _ h => h) (Or.inl ⟨by rfl, ?_⟩) ?_ ?_; rotate_left; (· intro w'; go_simp; with_reducible rfl); rotate_left; (· simp only [Act.put, sA_, sB_, sC_, i64_w, i32_w]; rfl); refine pure_ (i := 33) (N := some 50) (v := ?_) (a' := ?_) #[I,I,I,I,I,I,I,I,I,I,I,I,I,I,I,I,I,I,I,I,I,I,I,I,I,I,I,I,I,I,I,I,I,I] rfl rfl (by kernel_rfl) (fun _ _ _ h => h) (Or.inl ⟨by rfl, ?_⟩) ?_ ?_; rotate_left; (· intro w'; go_simp; with_reducible rfl); rotate_left; (· simp only [Act.put, sA_, sB_, sC_, i64_w, i32_w]; rfl); refine done_ (by kernel_rfl) ?_; obtain ⟨r1, hr1⟩ : ∃ r1, rows[f1.toNat]? = some r1 := ⟨_, List.getElem?_eq_getElem (l := rows) (i := f1.toNat) (by omega)⟩
  have hrd1 : rd_L1 rows f1 = r1 := by simp [rd_L1, List.getD_eq_getElem?_getD, hr1]
  obtain ⟨ad2', A4, c4, e4, hq4, hc4, hC4, _⟩ := HV.out.record HK.out hy hr1
  cases e4
  have HC4 := Aside0.mk hc4; have HC1 : Aside0 (Kd.C (Kd.int .i64) w3.drew A4 r1.length r1) := Aside0.mk hC4; clear hc4 hC4; have HEQ : Aside0 (slices_Equal_int_int.f (r1.length + 1) r1 f5 = some true) := ⟨by rw [slEq_f r1 f5 (by rw [HW.out _ _ hr1]; have := ALEN.out; have := HL5.out; omega)]; rw [hrd1] at heq; simp [heq]⟩; clear heq
  go_upto_region 20 with (fail)
  replace HB : Aside0 (Below w.heap.size w w3.drew) := ⟨below_drew HB.out⟩; replace HV : Aside0 (WRep w3.drew w.heap.size (.slice (some ad) l.length c) l) := HV; replace hz0 : w3.drew.cell? ⟨gb, 0, none⟩ = some (.int .i64 f0) := hz0; replace hz1 : w3.drew.cell? ⟨gb, 1, none⟩ = some (.int .i64 f1) := hz1; replace hz2 : w3.drew.cell? ⟨gb, 2, none⟩ = some (.int .i64 f2) := hz2; replace hz3 : w3.drew.cell? ⟨gb, 3, none⟩ = some (.int .i64 f3) := hz3; replace hz4 : w3.drew.cell? ⟨gb, 4, none⟩ = some (.int .i64 f4) := hz4; replace hz5 : w3.drew.cell? ⟨gb, 5, none⟩ = some (.slice A5 f5.length c5) := hz5; replace hy : w3.drew.cell? (ad.add f0.toNat) = some (.slice (some ad2) rows.length c2) := hy; replace hq4 : w3.drew.cell? (ad2.add f1.toNat) = some (.slice A4 r1.length c4) := hq4; refine start_ (n := 9) (S := fun w' => w'.cell? ⟨gb, 0, none⟩ = some (.int .i64 f0) ∧ w'.cell? ⟨gb, 1, none⟩ = some (.int .i64 f1) ∧ w'.cell? ⟨gb, 2, none⟩ = some (.int .i64 f2) ∧ w'.cell? ⟨gb, 3, none⟩ = some (.int .i64 f3) ∧ w'.cell? ⟨gb, 4, none⟩ = some (.int .i64 f4) ∧ w'.cell? ⟨gb, 5, none⟩ = some (.slice A5 f5.length c5) ∧ w'.cell? (ad.add f0.toNat) = some (.slice (some ad2) rows.length c2) ∧ w'.cell? (ad2.add f1.toNat) = some (.slice A4 r1.length c4)) (ds := []) #[O,O,O,O,O,O,O,O,O] (by kernel_rfl) rfl rfl ⟨hz0, hz1, hz2, hz3, hz4, hz5, hy, hq4⟩ (fun hHeld => ?_); generalize w3.drew = w4 at HV HB HC1 hHeld hz0 hz1 hz2 hz3 hz4 hz5 hy hq4 ⊢; refine pure_ (i := 0) (N := some 131) (v := ?_) (a' := ?_) #[I,O,O,O,O,O,O,O,O] rfl rfl (by kernel_rfl) (fun _ _ _ h => h) (Or.inl ⟨by rfl, ?_⟩) ?_ ?_; rotate_left; (· intro w'; go_simp; with_reducible rfl); rotate_left; (· simp only [Act.put, sA_, sB_, sC_, i64_w, i32_w]; rfl); refine pure_ (i := 1) (N := some 132) (v := ?_) (a' := ?_) #[I,I,O,O,O,O,O,O,O] rfl rfl (by kernel_rfl) (fun _ _ _ h => h) (Or.inl ⟨by rfl, ?_⟩) ?_ ?_; rotate_left; (· intro w'; go_simp; with_reducible rfl); rotate_left; (· simp only [Act.put, sA_, sB_, sC_, i64_w, i32_w]; rfl); refine pure_ (i := 5) (N := some 136) (v := ?_) (a' := ?_) #[I,I,O,O,O,I,O,O,O] rfl rfl (by kernel_rfl) (fun _ _ _ h => h) (Or.inl ⟨by rfl, ?_⟩) ?_ ?_; rotate_left; (· intro w'; go_simp; with_reducible rfl); rotate_left; (· simp only [Act.put, sA_, sB_, sC_, i64_w, i32_w]; rfl); refine take_ (i := 2) (N := some 133) (v := ?_) (a' := ?_) #[I,I,I,O,O,I,O,O,O] rfl rfl (by kernel_rfl) (fun _ _ _ h => h) (Or.inl ⟨by rfl, ?_⟩) hHeld ?_ ?_; rotate_left; (· rintro w' ⟨s0, s1, s2, s3, s4, s5, s6, s7⟩; go_simp; with_reducible rfl); rotate_left; (· simp only [Act.put, sA_, sB_, sC_, i64_w, i32_w]; rfl); refine pure_ (i := 3) (N := some 134) (v := ?_) (a' := ?_) #[I,I,I,I,O,I,O,O,O] rfl rfl (by kernel_rfl) (fun _ _ _ h => h) (Or.inl ⟨by rfl, ?_⟩) ?_ ?_
  rotate_left; (· intro w'; go_simp; with_reducible rfl); rotate_left; (· simp only [Act.put, sA_, sB_, sC_, i64_w, i32_w]; rfl); refine take_ (i := 4) (N := some 135) (v := ?_) (a' := ?_) #[I,I,I,I,I,I,O,O,O] rfl rfl (by kernel_rfl) (fun _ _ _ h => h) (Or.inl ⟨by rfl, ?_⟩) hHeld ?_ ?_; rotate_left; (· rintro w' ⟨s0, s1, s2, s3, s4, s5, s6, s7⟩; go_simp; with_reducible rfl); rotate_left; (· simp only [Act.put, sA_, sB_, sC_, i64_w, i32_w]; rfl); refine take_ (i := 6) (N := some 137) (v := ?_) (a' := ?_) #[I,I,I,I,I,I,I,O,O] rfl rfl (by kernel_rfl) (fun _ _ _ h => h) (Or.inl ⟨by rfl, ?_⟩) hHeld ?_ ?_; rotate_left; (· rintro w' ⟨s0, s1, s2, s3, s4, s5, s6, s7⟩; go_simp; with_reducible rfl); rotate_left; (· simp only [Act.put, sA_, sB_, sC_, i64_w, i32_w]; rfl); refine one_ (i := 7) (N := some 138) #[I,I,I,I,I,I,I,I,O] rfl rfl (by kernel_rfl) (by decide) (fun K hK => ?_); refine goes_ Try.func67 (by kernel_rfl) rfl #[.slice A4 r1.length c4, .slice A5 f5.length c5] (by rfl) rfl rfl (by simp only [List.map_toArray, List.map_cons, List.map_nil]; rfl) ?_
  with_reducible refine (slices_Equal_int_int.calls (r1.length + 1) A4 c4 r1 A5 c5 f5 true w4 HC1.out HC4.out (Kd.C_below HR.out HB.out) HC.out HEQ.out).mono ?_
  rintro e w5 ⟨rfl, hb5⟩; refine ⟨_, rfl, ?_⟩; have n0_ := Aside0.mk (below_step HB.out (Drawn0.below hb5)); have n1_ := Aside0.mk (HV.out.below (Drawn0.below hb5)); clear HB HV; have HB := n0_; have HV := n1_; clear n0_ n1_; replace hz0 := cell_below (Drawn0.below hb5) hz0; replace hz1 := cell_below (Drawn0.below hb5) hz1; replace hz2 := cell_below (Drawn0.below hb5) hz2; replace hz3 := cell_below (Drawn0.below hb5) hz3; replace hz4 := cell_below (Drawn0.below hb5) hz4; replace hz5 := cell_below (Drawn0.below hb5) hz5; replace hy := cell_below (Drawn0.below hb5) hy; replace hq4 := cell_below (Drawn0.below hb5) hq4; clear hb5; refine hK.out _ _ ⟨hz0, hz1, hz2, hz3, hz4, hz5, hy, hq4⟩ (fun hHeld => ?_); clear hK K; refine norm_ (a' := ?_) ?_ ?_; rotate_left
  ·show Act.put _ (some 138) _ = _
   simp only [Act.put, sA_, sB_, sC_, i64_w, i32_w]; rfl
  refine pure_ (i := 8) (N := some 139) (v := ?_) (a' := ?_) #[I,I,I,I,I,I,I,I,I] rfl rfl (by kernel_rfl) (fun _ _ _ h => h) (Or.inl ⟨by rfl, ?_⟩) ?_ ?_; rotate_left; (· intro w'; go_simp; with_reducible rfl); rotate_left; (· simp only [Act.put, sA_, sB_, sC_, i64_w, i32_w]; rfl); refine done_ (by kernel_rfl) ?_; have hfz := (HV.out.seen HK.out); obtain ⟨_, _, _, hc2', _, hfz⟩ := hfz; have hc2 := HC2.out; have HSH := Aside0.mk (HV.out.shrink HK.out hy (show f1.toNat ≤ rows.length by omega)); have HBL := Aside0.mk (HV.out.base_le HK.out)
  go_upto_region 22 with (fail)
  go_region
  go_wp2; go_ret; exact ⟨rfl, HSH.out, Below.setCell (below_drew HB.out) HBL.out _⟩
set_option maxHeartbeats 4000000 in
set_option maxRecDepth 100000 in
theorem apply_len2 (w W : World) (v : Value) (l : Wd) (f0 f1 f2 f3 f4 : Int) (A5 : Option Addr) (c5 : Nat) (f5 : List Int) (hB : Below w.heap.size w W) (hv : WRep W w.heap.size v l) (hr : Kd.C (Kd.int .i64) w A5 f5.length f5) (hc : f5.length ≤ c5)
  (hform : formedB f2 f3 f4 f5 = true) (hf0 : 0 ≤ f0) (hf1 : f0 < l.length) (rows : List (List Int)) (hk : l[f0.toNat]? = some rows) (hn : rows.length < 5864062014805) (hW : ∀ (i : Nat) r, rows[i]? = some r → r.length = (rd_L1 rows 0).length) (hz : 0 < rows.length) (hlen5 : f5.length ≠ (rd_L1 rows 0).length) (h2 : f2 < 0) :
  Calls Try.prog 44 #[v, .agg #[.int .i64 f0, .int .i64 f1, .int .i64 f2, .int .i64 f3, .int .i64 f4, .slice A5 f5.length c5]] W fun e W' => e = .returned (.int .i64 2) ∧ WRep W' w.heap.size v l ∧ Below w.heap.size w W' := by
 have hu61 := Try.underlying61; have HB := Aside0.mk hB; have HR := Aside0.mk hr; have HC := Aside0.mk hc; have HV := Aside0.mk hv; obtain ⟨ad, c, rfl, hg⟩ := hv.known hk; have HG := Aside0.mk hg
 have hlen : l.length ≤ 9223372036854775807 := by
  obtain ⟨_, _, h⟩ := hv; obtain ⟨A, c, e, hl, _⟩ := h.top; exact hl
 obtain ⟨A2, c2, hy, hc2, hrows, hfy⟩ := hv.seen hk; have HC2 := Aside0.mk hc2
 have HOW := Aside0.mk (show ∀ b, (Value.slice A2 rows.length c2).ownBlock = some b → b < W.heap.size from by
  obtain ⟨cs, h, _⟩ := hv.grow hk hy
  exact own_lt h)
 have HW := Aside0.mk hW; have HK := Aside0.mk hk; have hfr := Aside0.mk hfy; have hb0 := decide_eq_true hf0; have hb1 := decide_eq_true hf1; have HF := Aside0.mk ((formedB_f f0 f1 f2 f3 f4 f5).trans (congrArg some hform)); obtain ⟨kn, hkn⟩ : ∃ k, k = f0.toNat := ⟨_, rfl⟩; clear hB hr hc hv hg hfy hc2 hW hk hform; have hd2 : decide (f2 < 0) = true := decide_eq_true (by omega); have hp0 : decide (0 < (rows.length : Int)) = true := decide_eq_true (by omega); have hp1 : decide (0 < rows.length) = true := decide_eq_true (by omega); obtain ⟨r0, hr0⟩ : ∃ r0, rows[0]? = some r0 := ⟨_, List.getElem?_eq_getElem (l := rows) (i := 0) (by omega)⟩; obtain ⟨ad2, A3, c3, rfl, hq, hc3, _⟩ := HV.out.record HK.out hy hr0
 have hrd : r0 = rd_L1 rows 0 := by simp [rd_L1, List.getD_eq_getElem?_getD, hr0]
 have HC3 := Aside0.mk hc3; clear hc3; have hl50 : (f5.length != r0.length) = true := bne_iff_ne.2 (by rw [hrd]; exact hlen5); have hl51 : ((f5.length : Int) != (r0.length : Int)) = true := bne_iff_ne.2 (by rw [hrd]; omega); rw [Addr.add_zero'] at hq; have qi : (0 < rows.length) = True := eq_true (by omega); clear hlen5 hrd
 go_enter Try.func44, Try.ntmps44
 go_upto_region 1 with (first | ((with_reducible refine gate_dst (N := 3) rfl ?_); (try (refine gate_guard (by rfl) ?_; dsimp only)); refine box_event ?hg (N := 3) ?hd (cs := #[.int .i64 f0, .int .i64 f1, .int .i64 f2, .int .i64 f3, .int .i64 f4, .slice A5 f5.length c5]) (t := 61) ?hr ?_; (case hd => rfl); (case hg => rfl); (case hr => first | (go_simp; done) | (go_simp; rfl)); intro gb hg w1 hbox hb1; have n0_ := Aside0.mk (below_step HB.out hb1); have n1_ := Aside0.mk (HV.out.below hb1); have n2_ := Aside0.mk (show gb < w1.heap.size from (Array.getElem?_eq_some_iff.1 hbox).1);  have n3_ := cell_below hb1 hy; clear hy; have hy := n3_; clear n3_; have HNG := Aside0.mk (fun b (hb : (Value.slice (some ad2) rows.length c2).ownBlock = some b) => (by have := HOW.out b hb; omega : b ≠ gb)); have n3_ := cell_below hb1 hq; clear hq; have hq := n3_; clear n3_; clear HB HV; have HB := n0_; have HV := n1_; have GL := n2_; clear n0_ n1_ n2_; have hz0 : w1.cell? ⟨gb, 0, none⟩ = some (.int .i64 f0) := (blk_cell hbox 0).trans rfl; have hz1 : w1.cell? ⟨gb, 1, none⟩ = some (.int .i64 f1) := (blk_cell hbox 1).trans rfl; have hz2 : w1.cell? ⟨gb, 2, none⟩ = some (.int .i64 f2) := (blk_cell hbox 2).trans rfl; have hz3 : w1.cell? ⟨gb, 3, none⟩ = some (.int .i64 f3) := (blk_cell hbox 3).trans rfl; have hz4 : w1.cell? ⟨gb, 4, none⟩ = some (.int .i64 f4) := (blk_cell hbox 4).trans rfl; have hz5 : w1.cell? ⟨gb, 5, none⟩ = some (.slice A5 f5.length c5) := (blk_cell hbox 5).trans rfl; clear hb1 hbox hg))
 go_cut [5] (fun v5 wc => v5 = .bool true ∧ w1 = wc)
 case first =>
  go_wp2
  go_meet
  case rel => exact ⟨rfl, rfl⟩
 case rest =>
  obtain ⟨rfl, rfl⟩ := hcut
  go_upto_region 2 with (fail)
  replace HB : Aside0 (Below w.heap.size w w1.drew) := ⟨below_drew HB.out⟩; replace HV : Aside0 (WRep w1.drew w.heap.size (.slice (some ad) l.length c) l) := HV; replace GL : Aside0 (gb < w1.drew.heap.size) := GL; replace hz0 : w1.drew.cell? ⟨gb, 0, none⟩ = some (.int .i64 f0) := hz0; replace hz1 : w1.drew.cell? ⟨gb, 1, none⟩ = some (.int .i64 f1) := hz1; replace hz2 : w1.drew.cell? ⟨gb, 2, none⟩ = some (.int .i64 f2) := hz2; replace hz3 : w1.drew.cell? ⟨gb, 3, none⟩ = some (.int .i64 f3) := hz3; replace hz4 : w1.drew.cell? ⟨gb, 4, none⟩ = some (.int .i64 f4) := hz4; replace hz5 : w1.drew.cell? ⟨gb, 5, none⟩ = some (.slice A5 f5.length c5) := hz5; replace hy : w1.drew.cell? (ad.add f0.toNat) = some (.slice (some ad2) rows.length c2) := hy; replace hq : w1.drew.cell? ad2 = some (.slice A3 r0.length c3) := hq; refine start_ (n := 34) (S := fun w' => w'.cell? ⟨gb, 0, none⟩ = some (.int .i64 f0) ∧ w'.cell? ⟨gb, 1, none⟩ = some (.int .i64 f1) ∧ w'.cell? ⟨gb, 2, none⟩ = some (.int .i64 f2) ∧ w'.cell? ⟨gb, 3, none⟩ = some (.int .i64 f3) ∧ w'.cell? ⟨gb, 4, none⟩ = some (.int .i64 f4) ∧ w'.cell? ⟨gb, 5, none⟩ = some (.slice A5 f5.length c5) ∧ w'.cell? (ad.add f0.toNat) = some (.slice (some ad2) rows.length c2) ∧ w'.cell? ad2 = some (.slice A3 r0.length c3)) (ds := []) #[O,O,O,O,O,O,O,O,O,O,O,O,O,O,O,O,O,O,O,O,O,O,O,O,O,O,O,O,O,O,O,O,O,O] (by kernel_rfl) rfl rfl ⟨hz0, hz1, hz2, hz3, hz4, hz5, hy, hq⟩ (fun hHeld => ?_); generalize w1.drew = w2 at HB HV GL hHeld hz0 hz1 hz2 hz3 hz4 hz5 hy hq ⊢; refine take_ (i := 0) (N := some 17) (v := ?_) (a' := ?_) #[I,O,O,O,O,O,O,O,O,O,O,O,O,O,O,O,O,O,O,O,O,O,O,O,O,O,O,O,O,O,O,O,O,O] rfl rfl (by kernel_rfl) (fun _ _ _ h => h) (Or.inl ⟨by rfl, ?_⟩) hHeld ?_ ?_; rotate_left; (· rintro w' ⟨s0, s1, s2, s3, s4, s5, s6, s7⟩; go_simp; with_reducible rfl); rotate_left; (· simp only [Act.put, sA_, sB_, sC_, i64_w, i32_w]; rfl); refine one_ (i := 1) (N := some 18) #[I,I,O,O,O,O,O,O,O,O,O,O,O,O,O,O,O,O,O,O,O,O,O,O,O,O,O,O,O,O,O,O,O,O] rfl rfl (by kernel_rfl) (by decide) (fun K hK => ?_); refine goes_ Try.func66 (by kernel_rfl) rfl #[.agg #[.int .i64 f0, .int .i64 f1, .int .i64 f2, .int .i64 f3, .int .i64 f4, .slice A5 f5.length c5]] (by rfl) rfl rfl (by simp only [List.map_toArray, List.map_cons, List.map_nil]; rfl) ?_
  with_reducible refine (diff_Change_formed.calls f0 f1 f2 f3 f4 A5 c5 f5 true w2 (Kd.C_below HR.out HB.out) HC.out HF.out).mono ?_
  rintro e w3 ⟨rfl, hb⟩; refine ⟨_, rfl, ?_⟩; have n0_ := Aside0.mk (below_step HB.out hb); have n1_ := Aside0.mk (HV.out.below hb); have n2_ := Aside0.mk (Nat.lt_of_lt_of_le GL.out hb.size); clear HB HV GL; have HB := n0_; have HV := n1_; have GL := n2_; clear n0_ n1_ n2_; replace hz0 := cell_below hb hz0; replace hz1 := cell_below hb hz1; replace hz2 := cell_below hb hz2; replace hz3 := cell_below hb hz3; replace hz4 := cell_below hb hz4; replace hz5 := cell_below hb hz5; replace hy := cell_below hb hy; replace hq := cell_below hb hq; clear hb; refine hK.out _ _ ⟨hz0, hz1, hz2, hz3, hz4, hz5, hy, hq⟩ (fun hHeld => ?_); clear hK K; refine norm_ (a' := ?_) ?_ ?_; rotate_left
  ·show Act.put _ (some 18) _ = _
   simp only [Act.put, sA_, sB_, sC_, i64_w, i32_w]; rfl
  refine pure_ (i := 2) (N := some 19) (v := ?_) (a' := ?_) #[I,I,I,O,O,O,O,O,O,O,O,O,O,O,O,O,O,O,O,O,O,O,O,O,O,O,O,O,O,O,O,O,O,O] rfl rfl (by kernel_rfl) (fun _ _ _ h => h) (Or.inl ⟨by rfl, ?_⟩) ?_ ?_; rotate_left; (· intro w'; go_simp; with_reducible rfl); rotate_left; (· simp only [Act.put, sA_, sB_, sC_, i64_w, i32_w]; rfl); refine pure_ (i := 3) (N := some 20) (v := ?_) (a' := ?_) #[I,I,I,I,O,O,O,O,O,O,O,O,O,O,O,O,O,O,O,O,O,O,O,O,O,O,O,O,O,O,O,O,O,O] rfl rfl (by kernel_rfl) (fun _ _ _ h => h) (Or.inl ⟨by rfl, ?_⟩) ?_ ?_; rotate_left; (· intro w'; go_simp; with_reducible rfl); rotate_left; (· simp only [Act.put, sA_, sB_, sC_, i64_w, i32_w]; rfl); refine pure_ (i := 4) (N := some 21) (v := ?_) (a' := ?_) #[I,I,I,I,I,O,O,O,O,O,O,O,O,O,O,O,O,O,O,O,O,O,O,O,O,O,O,O,O,O,O,O,O,O] rfl rfl (by kernel_rfl) (fun _ _ _ h => h) (Or.inl ⟨by rfl, ?_⟩) ?_ ?_; rotate_left; (· intro w'; go_simp; with_reducible rfl); rotate_left; (· simp only [Act.put, sA_, sB_, sC_, i64_w, i32_w]; rfl); refine take_ (i := 5) (N := some 22) (v := ?_) (a' := ?_) #[I,I,I,I,I,I,O,O,O,O,O,O,O,O,O,O,O,O,O,O,O,O,O,O,O,O,O,O,O,O,O,O,O,O] rfl rfl (by kernel_rfl) (fun _ _ _ h => h) (Or.inl ⟨by rfl, ?_⟩) hHeld ?_ ?_; rotate_left; (· rintro w' ⟨s0, s1, s2, s3, s4, s5, s6, s7⟩; go_simp; with_reducible rfl); rotate_left; (· simp only [Act.put, sA_, sB_, sC_, i64_w, i32_w]; rfl); refine pure_ (i := 6) (N := some 23) (v := ?_) (a' := ?_) #[I,I,I,I,I,I,I,O,O,O,O,O,O,O,O,O,O,O,O,O,O,O,O,O,O,O,O,O,O,O,O,O,O,O] rfl rfl (by kernel_rfl) (fun _ _ _ h => h) (Or.inl ⟨by rfl, ?_⟩) ?_ ?_; rotate_left; (· intro w'; go_simp; with_reducible rfl); rotate_left; (· simp only [Act.put, sA_, sB_, sC_, i64_w, i32_w]; rfl); refine pure_ (i := 7) (N := some 24) (v := ?_) (a' := ?_) #[I,I,I,I,I,I,I,I,O,O,O,O,O,O,O,O,O,O,O,O,O,O,O,O,O,O,O,O,O,O,O,O,O,O] rfl rfl (by kernel_rfl) (fun _ _ _ h => h) (Or.inl ⟨by rfl, ?_⟩) ?_ ?_
  rotate_left; (· intro w'; go_simp; with_reducible rfl); rotate_left; (· simp only [Act.put, sA_, sB_, sC_, i64_w, i32_w]; rfl); refine pure_ (i := 8) (N := some 25) (v := ?_) (a' := ?_) #[I,I,I,I,I,I,I,I,I,O,O,O,O,O,O,O,O,O,O,O,O,O,O,O,O,O,O,O,O,O,O,O,O,O] rfl rfl (by kernel_rfl) (fun _ _ _ h => h) (Or.inl ⟨by rfl, ?_⟩) ?_ ?_; rotate_left; (· intro w'; go_simp; with_reducible rfl); rotate_left; (· simp only [Act.put, sA_, sB_, sC_, i64_w, i32_w]; rfl); refine pure_ (i := 9) (N := some 26) (v := ?_) (a' := ?_) #[I,I,I,I,I,I,I,I,I,I,O,O,O,O,O,O,O,O,O,O,O,O,O,O,O,O,O,O,O,O,O,O,O,O] rfl rfl (by kernel_rfl) (fun _ _ _ h => h) (Or.inl ⟨by rfl, ?_⟩) ?_ ?_; rotate_left; (· intro w'; go_simp; with_reducible rfl); rotate_left; (· simp only [Act.put, sA_, sB_, sC_, i64_w, i32_w]; rfl); refine pure_ (i := 10) (N := some 27) (v := ?_) (a' := ?_) #[I,I,I,I,I,I,I,I,I,I,I,O,O,O,O,O,O,O,O,O,O,O,O,O,O,O,O,O,O,O,O,O,O,O] rfl rfl (by kernel_rfl) (fun _ _ _ h => h) (Or.inl ⟨by rfl, ?_⟩) ?_ ?_; rotate_left; (· intro w'; go_simp; with_reducible rfl); rotate_left; (· simp only [Act.put, sA_, sB_, sC_, i64_w, i32_w]; rfl); refine pure_ (i := 11) (N := some 28) (v := ?_) (a' := ?_) #[I,I,I,I,I,I,I,I,I,I,I,I,O,O,O,O,O,O,O,O,O,O,O,O,O,O,O,O,O,O,O,O,O,O] rfl rfl (by kernel_rfl) (fun _ _ _ h => h) (Or.inl ⟨by rfl, ?_⟩) ?_ ?_; rotate_left; (· intro w'; go_simp; with_reducible rfl); rotate_left; (· simp only [Act.put, sA_, sB_, sC_, i64_w, i32_w]; rfl); refine pure_ (i := 12) (N := some 29) (v := ?_) (a' := ?_) #[I,I,I,I,I,I,I,I,I,I,I,I,I,O,O,O,O,O,O,O,O,O,O,O,O,O,O,O,O,O,O,O,O,O] rfl rfl (by kernel_rfl) (fun _ _ _ h => h) (Or.inl ⟨by rfl, ?_⟩) ?_ ?_; rotate_left; (· intro w'; go_simp; with_reducible rfl); rotate_left; (· simp only [Act.put, sA_, sB_, sC_, i64_w, i32_w]; rfl); refine take_ (i := 13) (N := some 30) (v := ?_) (a' := ?_) #[I,I,I,I,I,I,I,I,I,I,I,I,I,I,O,O,O,O,O,O,O,O,O,O,O,O,O,O,O,O,O,O,O,O] rfl rfl (by kernel_rfl) (fun _ _ _ h => h) (Or.inl ⟨by rfl, ?_⟩) hHeld ?_ ?_
  rotate_left; (· rintro w' ⟨s0, s1, s2, s3, s4, s5, s6, s7⟩; go_simp; with_reducible rfl); rotate_left; (· simp only [Act.put, sA_, sB_, sC_, i64_w, i32_w]; rfl); refine pure_ (i := 14) (N := some 31) (v := ?_) (a' := ?_) #[I,I,I,I,I,I,I,I,I,I,I,I,I,I,I,O,O,O,O,O,O,O,O,O,O,O,O,O,O,O,O,O,O,O] rfl rfl (by kernel_rfl) (fun _ _ _ h => h) (Or.inl ⟨by rfl, ?_⟩) ?_ ?_; rotate_left; (· intro w'; go_simp; with_reducible rfl); rotate_left; (· simp only [Act.put, sA_, sB_, sC_, i64_w, i32_w]; rfl); refine take_ (i := 15) (N := some 32) (v := ?_) (a' := ?_) #[I,I,I,I,I,I,I,I,I,I,I,I,I,I,I,I,O,O,O,O,O,O,O,O,O,O,O,O,O,O,O,O,O,O] rfl rfl (by kernel_rfl) (fun _ _ _ h => h) (Or.inl ⟨by rfl, ?_⟩) hHeld ?_ ?_; rotate_left; (· rintro w' ⟨s0, s1, s2, s3, s4, s5, s6, s7⟩; go_simp; with_reducible rfl); rotate_left; (· simp only [Act.put, sA_, sB_, sC_, i64_w, i32_w]; rfl); refine pure_ (i := 16) (N := some 33) (v := ?_) (a' := ?_) #[I,I,I,I,I,I,I,I,I,I,I,I,I,I,I,I,I,O,O,O,O,O,O,O,O,O,O,O,O,O,O,O,O,O] rfl rfl (by kernel_rfl) (fun _ _ _ h => h) (Or.inl ⟨by rfl, ?_⟩) ?_ ?_; rotate_left; (· intro w'; go_simp; with_reducible rfl); rotate_left; (· simp only [Act.put, sA_, sB_, sC_, i64_w, i32_w]; rfl); refine pure_ (i := 17) (N := some 34) (v := ?_) (a' := ?_) #[I,I,I,I,I,I,I,I,I,I,I,I,I,I,I,I,I,I,O,O,O,O,O,O,O,O,O,O,O,O,O,O,O,O] rfl rfl (by kernel_rfl) (fun _ _ _ h => h) (Or.inl ⟨by rfl, ?_⟩) ?_ ?_; rotate_left; (· intro w'; go_simp; with_reducible rfl); rotate_left; (· simp only [Act.put, sA_, sB_, sC_, i64_w, i32_w]; rfl); refine pure_ (i := 18) (N := some 35) (v := ?_) (a' := ?_) #[I,I,I,I,I,I,I,I,I,I,I,I,I,I,I,I,I,I,I,O,O,O,O,O,O,O,O,O,O,O,O,O,O,O] rfl rfl (by kernel_rfl) (fun _ _ _ h => h) (Or.inl ⟨by rfl, ?_⟩) ?_ ?_; rotate_left; (· intro w'; go_simp; with_reducible rfl); rotate_left; (· simp only [Act.put, sA_, sB_, sC_, i64_w, i32_w]; rfl); refine pure_ (i := 19) (N := some 36) (v := ?_) (a' := ?_) #[I,I,I,I,I,I,I,I,I,I,I,I,I,I,I,I,I,I,I,I,O,O,O,O,O,O,O,O,O,O,O,O,O,O] rfl rfl (by kernel_rfl) (fun _ _ _ h => h) (Or.inl ⟨by rfl, ?_⟩) ?_ ?_
  rotate_left; (· intro w'; go_simp; with_reducible rfl); rotate_left; (· simp only [Act.put, sA_, sB_, sC_, i64_w, i32_w]; rfl); refine pure_ (i := 20) (N := some 37) (v := ?_) (a' := ?_) #[I,I,I,I,I,I,I,I,I,I,I,I,I,I,I,I,I,I,I,I,I,O,O,O,O,O,O,O,O,O,O,O,O,O] rfl rfl (by kernel_rfl) (fun _ _ _ h => h) (Or.inl ⟨by rfl, ?_⟩) ?_ ?_; rotate_left; (· intro w'; go_simp; with_reducible rfl); rotate_left; (· simp only [Act.put, sA_, sB_, sC_, i64_w, i32_w]; rfl); refine pure_ (i := 23) (N := some 40) (v := ?_) (a' := ?_) #[I,I,I,I,I,I,I,I,I,I,I,I,I,I,I,I,I,I,I,I,I,O,O,I,O,O,O,O,O,O,O,O,O,O] rfl rfl (by kernel_rfl) (fun _ _ _ h => h) (Or.inl ⟨by rfl, ?_⟩) ?_ ?_; rotate_left; (· intro w'; go_simp; with_reducible rfl); rotate_left; (· simp only [Act.put, sA_, sB_, sC_, i64_w, i32_w]; rfl); refine pure_ (i := 24) (N := some 41) (v := ?_) (a' := ?_) #[I,I,I,I,I,I,I,I,I,I,I,I,I,I,I,I,I,I,I,I,I,O,O,I,I,O,O,O,O,O,O,O,O,O] rfl rfl (by kernel_rfl) (fun _ _ _ h => h) (Or.inl ⟨by rfl, ?_⟩) ?_ ?_; rotate_left; (· intro w'; go_simp; with_reducible rfl); rotate_left; (· simp only [Act.put, sA_, sB_, sC_, i64_w, i32_w]; rfl); refine take_ (i := 21) (N := some 38) (v := ?_) (a' := ?_) #[I,I,I,I,I,I,I,I,I,I,I,I,I,I,I,I,I,I,I,I,I,I,O,I,I,O,O,O,O,O,O,O,O,O] rfl rfl (by kernel_rfl) (fun _ _ _ h => h) (Or.inl ⟨by rfl, ?_⟩) hHeld ?_ ?_; rotate_left; (· rintro w' ⟨s0, s1, s2, s3, s4, s5, s6, s7⟩; go_simp; with_reducible rfl); rotate_left; (· simp only [Act.put, sA_, sB_, sC_, i64_w, i32_w]; rfl); refine pure_ (i := 22) (N := some 39) (v := ?_) (a' := ?_) #[I,I,I,I,I,I,I,I,I,I,I,I,I,I,I,I,I,I,I,I,I,I,I,I,I,O,O,O,O,O,O,O,O,O] rfl rfl (by kernel_rfl) (fun _ _ _ h => h) (Or.inl ⟨by rfl, ?_⟩) ?_ ?_; rotate_left; (· intro w'; go_simp; with_reducible rfl); rotate_left; (· simp only [Act.put, sA_, sB_, sC_, i64_w, i32_w]; rfl); refine take_ (i := 25) (N := some 42) (v := ?_) (a' := ?_) #[I,I,I,I,I,I,I,I,I,I,I,I,I,I,I,I,I,I,I,I,I,I,I,I,I,I,O,O,O,O,O,O,O,O] rfl rfl (by kernel_rfl) (fun _ _ _ h => h) (Or.inl ⟨by rfl, ?_⟩) hHeld ?_ ?_
  rotate_left; (· rintro w' ⟨s0, s1, s2, s3, s4, s5, s6, s7⟩; go_simp; with_reducible rfl); rotate_left; (· simp only [Act.put, sA_, sB_, sC_, i64_w, i32_w]; rfl); refine pure_ (i := 26) (N := some 43) (v := ?_) (a' := ?_) #[I,I,I,I,I,I,I,I,I,I,I,I,I,I,I,I,I,I,I,I,I,I,I,I,I,I,I,O,O,O,O,O,O,O] rfl rfl (by kernel_rfl) (fun _ _ _ h => h) (Or.inl ⟨by rfl, ?_⟩) ?_ ?_; rotate_left; (· intro w'; go_simp; with_reducible rfl); rotate_left; (· simp only [Act.put, sA_, sB_, sC_, i64_w, i32_w]; rfl); refine take_ (i := 27) (N := some 44) (v := ?_) (a' := ?_) #[I,I,I,I,I,I,I,I,I,I,I,I,I,I,I,I,I,I,I,I,I,I,I,I,I,I,I,I,O,O,O,O,O,O] rfl rfl (by kernel_rfl) (fun _ _ _ h => h) (Or.inl ⟨by rfl, ?_⟩) hHeld ?_ ?_; rotate_left; (· rintro w' ⟨s0, s1, s2, s3, s4, s5, s6, s7⟩; go_simp; with_reducible rfl); rotate_left; (· simp only [Act.put, sA_, sB_, sC_, i64_w, i32_w]; rfl); refine pure_ (i := 28) (N := some 45) (v := ?_) (a' := ?_) #[I,I,I,I,I,I,I,I,I,I,I,I,I,I,I,I,I,I,I,I,I,I,I,I,I,I,I,I,I,O,O,O,O,O] rfl rfl (by kernel_rfl) (fun _ _ _ h => h) (Or.inl ⟨by rfl, ?_⟩) ?_ ?_; rotate_left; (· intro w'; go_simp; with_reducible rfl); rotate_left; (· simp only [Act.put, sA_, sB_, sC_, i64_w, i32_w]; rfl); refine take_ (i := 29) (N := some 46) (v := ?_) (a' := ?_) #[I,I,I,I,I,I,I,I,I,I,I,I,I,I,I,I,I,I,I,I,I,I,I,I,I,I,I,I,I,I,O,O,O,O] rfl rfl (by kernel_rfl) (fun _ _ _ h => h) (Or.inl ⟨by rfl, ?_⟩) hHeld ?_ ?_; rotate_left; (· rintro w' ⟨s0, s1, s2, s3, s4, s5, s6, s7⟩; go_simp; with_reducible rfl); rotate_left; (· simp only [Act.put, sA_, sB_, sC_, i64_w, i32_w]; rfl); refine pure_ (i := 30) (N := some 47) (v := ?_) (a' := ?_) #[I,I,I,I,I,I,I,I,I,I,I,I,I,I,I,I,I,I,I,I,I,I,I,I,I,I,I,I,I,I,I,O,O,O] rfl rfl (by kernel_rfl) (fun _ _ _ h => h) (Or.inl ⟨by rfl, ?_⟩) ?_ ?_; rotate_left; (· intro w'; go_simp; with_reducible rfl); rotate_left; (· simp only [Act.put, sA_, sB_, sC_, i64_w, i32_w]; rfl); refine pure_ (i := 31) (N := some 48) (v := ?_) (a' := ?_) #[I,I,I,I,I,I,I,I,I,I,I,I,I,I,I,I,I,I,I,I,I,I,I,I,I,I,I,I,I,I,I,I,O,O] rfl rfl (by kernel_rfl) (fun _ _ _ h => h) (Or.inl ⟨by rfl, ?_⟩) ?_ ?_
  rotate_left; (· intro w'; go_simp; with_reducible rfl); rotate_left; (· simp only [Act.put, sA_, sB_, sC_, i64_w, i32_w]; rfl); refine pure_ (i := 32) (N := some 49) (v := ?_) (a' := ?_) #[I,I,I,I,I,I,I,I,I,I,I,I,I,I,I,I,I,I,I,I,I,I,I,I,I,I,I,I,I,I,I,I,I,O] rfl rfl (by kernel_rfl) (fun _ _ _ h => h) (Or.inl ⟨by rfl, ?_⟩) ?_ ?_; rotate_left; (· intro w'; go_simp; with_reducible rfl); rotate_left; (· simp only [Act.put, sA_, sB_, sC_, i64_w, i32_w]; rfl); refine pure_ (i := 33) (N := some 50) (v := ?_) (a' := ?_) #[I,I,I,I,I,I,I,I,I,I,I,I,I,I,I,I,I,I,I,I,I,I,I,I,I,I,I,I,I,I,I,I,I,I] rfl rfl (by kernel_rfl) (fun _ _ _ h => h) (Or.inl ⟨by rfl, ?_⟩) ?_ ?_; rotate_left; (· intro w'; go_simp; with_reducible rfl); rotate_left; (· simp only [Act.put, sA_, sB_, sC_, i64_w, i32_w]; rfl); refine done_ (by kernel_rfl) ?_; go_wp2; go_ret; exact ⟨rfl, HV.out, by first | exact HB.out | exact pw_below_drewN HB.out _ | exact pw_below_drewN (pw_below_drewN HB.out _) _⟩
end Go.Proofs.Ytcgpemefmakjiaa.PX
namespace Go.Proofs.Ytcgpemefmakjiaa.PX
open Go.RowKit Go.Proofs.YtcgpemefmakjiaaW.PrintWords Go.Proofs.YtcgpemefmakjiaaW.PrintLast Go.Proofs.YtcgpemefmakjiaaW.PrintMore
set_option linter.unusedVariables false
theorem formed_neg {f2 f3 f4 : Int} {f5 : List Int} (h : formedB f2 f3 f4 f5 = true) (h2 : f2 < 0) : -2 ≤ f2 ∧ f5.length ≤ 10 := by
 unfold formedB at h; rw [if_neg (by omega)] at h; simp only [Bool.and_eq_true, decide_eq_true_eq] at h; exact ⟨h.1.1.1.1, h.2⟩
theorem apply_step (w W : World) (v : Value) (l : Wd) (f0 f1 f2 f3 f4 : Int) (A5 : Option Addr) (c5 : Nat) (f5 : List Int) (hB : Below w.heap.size w W) (hv : WRep W w.heap.size v l) (hr : Kd.C (Kd.int .i64) w A5 f5.length f5) (hc : f5.length ≤ c5)
  {n : Nat} (hG : Good n l) (hn : n < 5864062014805) :
  Calls Try.prog 44 #[v, .agg #[.int .i64 f0, .int .i64 f1, .int .i64 f2, .int .i64 f3, .int .i64 f4, .slice A5 f5.length c5]] W fun e W' => e = .returned (.int .i64 (stepW l f0 f1 f2 f3 f4 f5).2) ∧ WRep W' w.heap.size v (stepW l f0 f1 f2 f3 f4 f5).1 ∧ Below w.heap.size w W' := by
 unfold stepW
 by_cases hf : formedB f2 f3 f4 f5 = false
 (· rw [if_pos hf]; exact apply_bad w W v l f0 f1 f2 f3 f4 A5 c5 f5 hB hv hr hc hf); rw [if_neg hf]
 have hf : formedB f2 f3 f4 f5 = true := by simpa using hf
 by_cases hk : f0 < 0 ∨ (l.length : Int) ≤ f0
 ·rw [if_pos hk]
  by_cases h2 : 0 ≤ f2
  (· exact apply_unknown_set w W v l f0 f1 f2 f3 f4 A5 c5 f5 hB hv hr hc hf hk h2); (· exact apply_unknown_neg w W v l f0 f1 f2 f3 f4 A5 c5 f5 hB hv hr hc hf hk (by omega))
 rw [if_neg hk]
 have hk1 : 0 ≤ f0 := by omega
 have hk2 : f0 < l.length := by omega
 have hrows := rd_L2_at l f0 hk1 hk2; obtain ⟨hm, hW⟩ := hG _ _ hrows
 have hm : (rd_L2 l f0).length < 5864062014805 := by omega
 generalize rd_L2 l f0 = rows at hrows hm hW; unfold stepK
 by_cases hl : f2 < 0 ∧ 0 < rows.length ∧ f5.length ≠ (rd_L1 rows 0).length
 (· rw [if_pos hl]; exact apply_len2 w W v l f0 f1 f2 f3 f4 A5 c5 f5 hB hv hr hc hf hk1 hk2 rows hrows hm hW hl.2.1 hl.2.2 hl.1); rw [if_neg hl]
 have hl5 : f2 < 0 → 0 < rows.length → f5.length = (rd_L1 rows 0).length := fun a b => Decidable.byContradiction (fun e => hl ⟨a, b, e⟩)
 by_cases ha : f2 = -1
 ·rw [if_pos ha]
  obtain ⟨_, h5⟩ := formed_neg hf (by omega)
  rcases Nat.eq_zero_or_pos rows.length with hz | hz
  ·by_cases h1 : f1 = rows.length
   (· rw [if_pos h1]; exact apply_add0_e w W v l f0 f1 f2 f3 f4 A5 c5 f5 hB hv hr hc hf hk1 hk2 rows hrows hm hW hz h5 ha h1); (· rw [if_neg h1]; exact apply_add5_e w W v l f0 f1 f2 f3 f4 A5 c5 f5 hB hv hr hc hf hk1 hk2 rows hrows hm hW hz ha h1)
  ·by_cases h1 : f1 = rows.length
   (· rw [if_pos h1]; exact apply_add0_f w W v l f0 f1 f2 f3 f4 A5 c5 f5 hB hv hr hc hf hk1 hk2 rows hrows hm hW hz (hl5 (by omega) hz) h5 ha h1); (· rw [if_neg h1]; exact apply_add5_f w W v l f0 f1 f2 f3 f4 A5 c5 f5 hB hv hr hc hf hk1 hk2 rows hrows hm hW hz (hl5 (by omega) hz) ha h1)
 rw [if_neg ha]
 by_cases ht : f2 = -2
 ·rw [if_pos ht]
  obtain ⟨_, h5⟩ := formed_neg hf (by omega)
  by_cases h1 : rows.length = 0 ∨ f1 ≠ rows.length - 1
  ·rw [if_pos h1]
   rcases Nat.eq_zero_or_pos rows.length with hz | hz
   (· exact apply_take5_e w W v l f0 f1 f2 f3 f4 A5 c5 f5 hB hv hr hc hf hk1 hk2 rows hrows hm hW hz ht); (· exact apply_take5_f w W v l f0 f1 f2 f3 f4 A5 c5 f5 hB hv hr hc hf hk1 hk2 rows hrows hm hW hz (hl5 (by omega) hz) ht (h1.resolve_left (by omega)))
  ·rw [if_neg h1]
   have hz : 0 < rows.length := by omega
   have h1b : f1 = rows.length - 1 := by omega
   by_cases he : rd_L1 rows f1 = f5
   (· rw [if_pos he]; exact apply_take0 w W v l f0 f1 f2 f3 f4 A5 c5 f5 hB hv hr hc hf hk1 hk2 rows hrows hm hW h5 hz (hl5 (by omega) hz) ht h1b he); (· rw [if_neg he]; exact apply_take16 w W v l f0 f1 f2 f3 f4 A5 c5 f5 hB hv hr hc hf hk1 hk2 rows hrows hm hW h5 hz (hl5 (by omega) hz) ht h1b he)
 rw [if_neg ht]
 have h2 : 0 ≤ f2 := by
  by_cases h2 : 0 ≤ f2
  (· exact h2); (· have := (formed_neg hf (by omega)).1; omega)
 by_cases hb : f1 < 0 ∨ rows.length ≤ f1 ∨ (rd_L1 rows 0).length ≤ f2
 ·rw [if_pos hb]
  by_cases h1 : f1 < 0
  (· exact apply_set5a w W v l f0 f1 f2 f3 f4 A5 c5 f5 hB hv hr hc hf hk1 hk2 rows hrows hm hW h2 h1)
  ·by_cases h1b : rows.length ≤ f1
   (· exact apply_set5b w W v l f0 f1 f2 f3 f4 A5 c5 f5 hB hv hr hc hf hk1 hk2 rows hrows hm hW h2 (by omega) h1b); (· exact apply_set5c w W v l f0 f1 f2 f3 f4 A5 c5 f5 hB hv hr hc hf hk1 hk2 rows hrows hm hW h2 (by omega) (by omega) (by omega))
 rw [if_neg hb]
 by_cases ho : rd (rd_L1 rows f1) f2 = f3
 (· rw [if_neg (by simpa using ho)]; exact apply_set0 w W v l f0 f1 f2 f3 f4 A5 c5 f5 hB hv hr hc hf hk1 hk2 rows hrows hm hW h2 (by omega) (by omega) (by omega) ho); (· rw [if_pos ho]; exact apply_set16 w W v l f0 f1 f2 f3 f4 A5 c5 f5 hB hv hr hc hf hk1 hk2 rows hrows hm hW h2 (by omega) (by omega) (by omega) ho)
end Go.Proofs.Ytcgpemefmakjiaa.PX
namespace Go.Proofs.Ytcgpemefmakjiaa.PX
open Go.RowKit Go.Proofs.YtcgpemefmakjiaaW.PrintWords Go.Proofs.YtcgpemefmakjiaaW.PrintLast Go.Proofs.YtcgpemefmakjiaaW.PrintMore
set_option linter.unusedVariables false
set_option linter.unusedSimpArgs false
theorem raw_zero (W : World) (b : Nat) (ok : Nat → Prop) : (Kd.raw 1).M W b ok [Value.slice none 0 0] (Value.slice none 0 0).cells.toList := ⟨rfl, rfl, fun u hu => by
 have : u = .slice none 0 0 := by simpa [Value.cells] using hu
 subst this
 rfl⟩
def ApplyPost (w : World) (r : Wd × Int) (e : Ending) (w' : World) : Prop := ∃ v0_ : Value, e = .returned (.tuple #[v0_, .int .i64 r.2]) ∧ Kd.R (Kd.slice 22 (Kd.slice 3 (Kd.int .i64))) 64 w' w.heap.size (fun _ => True) v0_ r.1 ∧ Below w.heap.size w w'
set_option maxHeartbeats 4000000 in
set_option maxRecDepth 100000 in
theorem apply_any (A0 : Option Addr) (c0 : Nat) (l0 : Wd) (A1 : Option Addr) (c1 : Nat) (l1 : List S61) (w : World) (hr0 : Kd.C (Kd.slice 22 (Kd.slice 3 (Kd.int .i64))) w A0 l0.length l0) (hc0 : l0.length ≤ c0)
  (hr1 : Kd.C k61 w A1 l1.length l1) (hc1 : l1.length ≤ c1) (hs0 : sumLen l0 < 4611686018427387904) : Calls Try.prog 19 #[.slice A0 l0.length c0, .slice A1 l1.length c1] w (ApplyPost w (applyR l0 l1)) := by
 have hu61 := Try.underlying61; have hlen0 := hr0.2.1; have hlen1 := hr1.2.1; have H0 := Aside0.mk (diff_shaped.calls A0 c0 l0 (shapedB l0) w hr0 hc0 (if_pos hs0)); have HR0 := Aside0.mk hr0; have HR1 := Aside0.mk hr1; clear hr0 hr1 hc0 hc1 hs0; generalize hb0 : shapedB l0 = b0 at H0; have HB0 := Lib.hid hb0; clear hb0
 go_enter Try.func19, Try.ntmps19
 cases b0 with
 | false =>
  go_wp2_with (go_at_call 37; refine H0.out.mono ?_; rintro e w1 ⟨rfl, hb⟩; have HB := Aside0.mk hb; clear hb)
  go_ret2; exact ⟨.slice none 0 0, by unfold applyR; rw [HB0.out]; rfl, by unfold applyR; rw [HB0.out]; exact Kd.R_nil _ _ _ _ _, HB.out⟩
 | true =>
  by_cases hll : 8192 < l1.length
  ·have hll2 : (8192 : Int) < (l1.length : Int) := by omega
   have hll3 := decide_eq_true hll2
   go_wp2_with (go_at_call 37; refine H0.out.mono ?_; rintro e w1 ⟨rfl, hb⟩; have HB := Aside0.mk hb; clear hb)
   go_ret2; exact ⟨.slice none 0 0, by unfold applyR; rw [HB0.out, if_neg (by simp), if_pos hll]; rfl, by unfold applyR; rw [HB0.out, if_neg (by simp), if_pos hll]; exact Kd.R_nil _ _ _ _ _, HB.out⟩
  ·have hll2 : ¬ (8192 : Int) < (l1.length : Int) := by omega
   have hll3 := decide_eq_false hll2; have HS6 := Aside0.mk (shaped_small HB0.out); have hs6 := HS6.out.1
   have hl6 : l0.length * 24 ≤ 281474976710656 := by omega
   go_upto_region 5 with (first
    | (go_at_call 37; refine H0.out.mono ?_; rintro e w1 ⟨rfl, hb⟩; have HB1 := Aside0.mk hb; clear hb))
   go_upto_region 6 with ((with_reducible refine gate_dst (N := 23) rfl ?_); refine Kd.R_make (Kd.raw 1) (w0 := w) (ok := fun _ => True) (okp := fun _ => True) w.heap.size 64 ?m1 (N := 23) ?m2 25 (.tmp 22) (.tmp 22) ?m3 (l0.length : Int) ?m4 ?m5 Try.underlying25 (.slice none 0 0) 24 info64 rfl (by decide) (by decide) [.slice none 0 0] ?m6 ?m7 ?m8 ?m9 ?m10 ?m11 ?m12 ?_; (case m1 => rfl); (case m2 => rfl); (case m3 => rfl); (case m4 => rfl); (case m5 => rfl); (case m6 => exact raw_zero _ _ _); (case m7 => exact fun _ h => h); (case m8 => exact trivial); (case m9 => omega); (case m10 => rw [Int.toNat_natCast]; omega); (case m11 => exact HB1.out); (case m12 => exact HB1.out.size); intro v2 w2 hv2 hb2 _ _; rw [Int.toNat_natCast] at hv2; have HV2 := Aside0.mk (WRep.made hv2); have HB2 := Aside0.mk hb2; clear hv2 hb2)
   clear H0
   obtain ⟨A, c, rfl⟩ : ∃ A c, v2 = .slice A l0.length c := by
    obtain ⟨_, _, h⟩ := HV2.out; obtain ⟨A, c, e, _⟩ := h.top; rw [List.length_replicate] at e; exact ⟨A, c, e⟩
   go_wp2
   go_loopw [26] (fun u wr => ∃ k : Nat, k ≤ l0.length ∧ u = .int .i64 k ∧ Aside0 (Below w.heap.size w wr) ∧ Aside0 (WRep wr w.heap.size (.slice A l0.length c) (cp l0 k 0))) (fun u _ => l0.length - (intOf u).toNat)
   case atStart => exact ⟨0, Nat.zero_le _, rfl, ⟨HB2.out⟩, ⟨by rw [cp_zero]; exact HV2.out⟩⟩
   case round =>
    obtain ⟨k, hk, rfl, HB, HV⟩ := hrel
    by_cases hlt : k < l0.length
    ·obtain ⟨bd, B1, d1, e1, hx1, hl1, hi1⟩ := at_L2 HR0.out k (by omega) (by omega)
     cases e1
     have HI := Aside0.mk hi1; have hrl := hi1.2.1; have hrows := rd_L2_at l0 k (by omega) (by omega); rw [Int.toNat_natCast] at hx1 hrows; replace hx1 := cell_below HB.out hx1; have HRW := Aside0.mk hrows; clear hi1 hrows; generalize rd_L2 l0 k = rows at hx1 hl1 HI HRW hrl; have hr512 := (HS6.out.2.2 k rows HRW.out).1; go_wp2; have HXW := Aside0.mk hx1; have HBk := Aside0.mk HB.out; clear hx1 HB
     go_loopw [34] (fun u wr' => ∃ i : Nat, i ≤ rows.length ∧ u = .int .i64 i ∧ Aside0 (Below w.heap.size w wr') ∧ Aside0 (WRep wr' w.heap.size (.slice A l0.length c) (cp l0 k i))) (fun u _ => rows.length - (intOf u).toNat)
     case atStart => exact ⟨0, Nat.zero_le _, rfl, ⟨HBk.out⟩, ⟨HV.out⟩⟩
     case round =>
      clear HV; obtain ⟨i, hi, rfl, HB, HV⟩ := hrel
      by_cases hlti : i < rows.length
      ·obtain ⟨q, hq⟩ : ∃ q, q = rows.take i := ⟨_, rfl⟩
       have hql : q.length = i := by rw [hq, List.length_take]; omega
       have hcpq : (cp l0 k i)[k]? = some q := by rw [hq]; exact cp_at l0 k i rows HRW.out
       obtain ⟨lc, hlc⟩ : ∃ lc, lc = cp l0 k i := ⟨_, rfl⟩
       have hlcl : lc.length = l0.length := by rw [hlc, cp_length]
       rw [← hlc] at hcpq HV; obtain ⟨ad, c', hAe, _⟩ := HV.out.known hcpq
       injection hAe with hAe _ _
       subst hAe; have HV := Aside0.mk (show WRep wr w.heap.size (.slice (some ad) lc.length c) lc by rw [hlcl]; exact HV.out); have HK := Aside0.mk hcpq; obtain ⟨A2, c2, hy, _, _, _⟩ := HV.out.seen HK.out; obtain ⟨be, B2, d2, e2, hx2, hl2, hi2⟩ := at_L1 HI.out i (by omega) (by omega)
       cases e2
       have hrow := rd_L1_at rows i (by omega) (by omega); rw [Int.toNat_natCast] at hx2 hrow; replace hx2 := cell_below HB.out hx2; have HRR := Aside0.mk hi2; have HRC := Aside0.mk hl2; have HROW := Aside0.mk hrow; clear hi2 hl2 hrow; generalize rd_L1 rows (i : Int) = r at hx2 HRR HRC HROW; have hr10 := (shaped_wide HB0.out k rows HRW.out i r HROW.out).2; have HCL : Aside0 (slices_Clone_int_int.f r = some r) := ⟨by unfold slices_Clone_int_int.f; rw [if_pos (by omega)]⟩; have HLN := Aside0.mk (show q.length ≤ 512 by omega); have HQ := Aside0.mk hq; have HLC := Aside0.mk hlc; have HLL := Aside0.mk hlcl; have HQL := Aside0.mk hql
       have hkl : k < lc.length := by omega
       clear hq hlc hlcl hql hcpq; obtain ⟨cs, hcs, hgrow⟩ := WRep.grow (W := wr.drew) HV.out HK.out hy; obtain ⟨_, _, _, _, _, hfy⟩ := WRep.seen (W := wr.drew) HV.out HK.out; have HBL := Aside0.mk (HV.out.base_le HK.out); have HCS := Aside0.mk hcs; have HGR := Aside0.mk hgrow; have HFY := Aside0.mk hfy; have HLT := Aside0.mk (show (ad.add k).block < wr.drew.heap.size from World.block_lt_of_cell? _ _ hy); have HB4 : Aside0 (Below w.heap.size w wr.drew) := ⟨below_drew HB.out⟩; have hy4 : wr.drew.cell? (ad.add k) = some (.slice A2 q.length c2) := hy; have HNT : Aside0 (some (ad.add k).block ≠ (Value.slice A2 q.length c2).ownBlock) := ⟨HV.out.top_ne HK.out hcs⟩; clear hcs hgrow hfy hy
       go_upto_region 12 with (fail)
       refine start_ (n := 12) (S := fun w' => w'.cell? (ad.add k) = some (.slice A2 q.length c2)) (ds := [11]) #[O,O,O,O,O,O,O,O,O,O,O,O] (by kernel_rfl) rfl rfl (hy4) (fun hHeld => ?_); generalize wr.drew = w4 at HB4 HCS HGR HFY HLT hHeld hy4 ⊢; refine pure_ (i := 0) (N := some 38) (v := ?_) (a' := ?_) #[I,O,O,O,O,O,O,O,O,O,O,O] rfl rfl (by kernel_rfl) (fun _ _ _ h => h) (Or.inl ⟨by rfl, ?_⟩) ?_ ?_; rotate_left; (· intro w'; go_simp; with_reducible rfl); rotate_left; (· simp only [Act.put, sA_, sB_, sC_, i64_w, i32_w]; rfl); refine pure_ (i := 1) (N := some 39) (v := ?_) (a' := ?_) #[I,I,O,O,O,O,O,O,O,O,O,O] rfl rfl (by kernel_rfl) (fun _ _ _ h => h) (Or.inl ⟨by rfl, ?_⟩) ?_ ?_; rotate_left; (· intro w'; go_simp; with_reducible rfl); rotate_left; (· simp only [Act.put, sA_, sB_, sC_, i64_w, i32_w]; rfl); refine pure_ (i := 2) (N := some 40) (v := ?_) (a' := ?_) #[I,I,I,O,O,O,O,O,O,O,O,O] rfl rfl (by kernel_rfl) (fun _ _ _ h => h) (Or.inl ⟨by rfl, ?_⟩) ?_ ?_; rotate_left; (· intro w'; go_simp; with_reducible rfl); rotate_left; (· simp only [Act.put, sA_, sB_, sC_, i64_w, i32_w]; rfl); refine pure_ (i := 3) (N := some 41) (v := ?_) (a' := ?_) #[I,I,I,I,O,O,O,O,O,O,O,O] rfl rfl (by kernel_rfl) (fun _ _ _ h => h) (Or.inl ⟨by rfl, ?_⟩) ?_ ?_; rotate_left; (· intro w'; go_simp; with_reducible rfl); rotate_left; (· simp only [Act.put, sA_, sB_, sC_, i64_w, i32_w]; rfl); refine pure_ (i := 4) (N := some 42) (v := ?_) (a' := ?_) #[I,I,I,I,I,O,O,O,O,O,O,O] rfl rfl (by kernel_rfl) (fun _ _ _ h => h) (Or.inl ⟨by rfl, ?_⟩) ?_ ?_; rotate_left; (· intro w'; go_simp; with_reducible rfl); rotate_left; (· simp only [Act.put, sA_, sB_, sC_, i64_w, i32_w]; rfl); refine pure_ (i := 6) (N := some 44) (v := ?_) (a' := ?_) #[I,I,I,I,I,O,I,O,O,O,O,O] rfl rfl (by kernel_rfl) (fun _ _ _ h => h) (Or.inl ⟨by rfl, ?_⟩) ?_ ?_; rotate_left; (· intro w'; go_simp; with_reducible rfl); rotate_left; (· simp only [Act.put, sA_, sB_, sC_, i64_w, i32_w]; rfl); refine take_ (i := 5) (N := some 43) (v := ?_) (a' := ?_) #[I,I,I,I,I,I,I,O,O,O,O,O] rfl rfl (by kernel_rfl) (fun _ _ _ h => h) (Or.inl ⟨by rfl, ?_⟩) hHeld ?_ ?_; rotate_left; (· intro w' s0; go_simp; with_reducible rfl); rotate_left; (· simp only [Act.put, sA_, sB_, sC_, i64_w, i32_w]; rfl); refine one_ (i := 7) (N := some 45) #[I,I,I,I,I,I,I,I,O,O,O,O] rfl rfl (by kernel_rfl) (by decide) (fun K hK => ?_)
       refine goes_ Try.func43 (by kernel_rfl) rfl #[.slice B2 r.length d2] (by rfl) rfl rfl (by simp only [List.map_toArray, List.map_cons, List.map_nil]; rfl) ?_
       with_reducible refine (slices_Clone_int_int.calls B2 d2 r r w4 (Kd.C_below HRR.out HB4.out) HRC.out HCL.out).mono ?_
       rintro e w5 ⟨v5, rfl, hr5, hb5⟩; refine ⟨_, rfl, ?_⟩; obtain ⟨A9, c9, rfl⟩ := Kd.R_slice hr5; have HR5 := Aside0.mk hr5; have HB5 := Aside0.mk hb5; have HB6 := Aside0.mk (below_step HB4.out hb5); replace hy4 := cell_below hb5 hy4; clear hr5 hb5; refine hK.out _ _ (hy4) (fun hHeld => ?_); clear hK K; refine norm_ (a' := ?_) ?_ ?_; rotate_left
       ·show Act.put _ (some 45) _ = _
        simp only [Act.put, sA_, sB_, sC_, i64_w, i32_w]; rfl
       refine one_ (i := 8) (N := some 46) #[I,I,I,I,I,I,I,I,I,O,O,O] rfl rfl (by kernel_rfl) (by decide) (fun K hK => ?_); refine value_ (w1 := ?_) (v := ?_) (by rfl) rfl ?_ ?_; rotate_left 2
       ·go_simp
        constructor; (· rfl); (· rfl)
       refine hK.out _ _ (cell_below (below_alloc (Below.refl _ _) _) hy4) (fun hHeld => ?_); clear hK K; refine norm_ (a' := ?_) ?_ ?_; rotate_left
       ·show Act.put _ (some 46) _ = _
        simp only [Act.put, sA_, sB_, sC_, i64_w, i32_w]; rfl
       refine one_ (i := 9) (N := some 47) #[I,I,I,I,I,I,I,I,I,I,O,O] rfl rfl (by kernel_rfl) (by decide) (fun K hK => ?_); refine step_append_cells (w0 := w) w.heap.size (by rfl) (.tmp 43) (.tmp 46) 64 22 (.slice none 0 0) 1 24 rfl Try.underlying64 info22 rfl (by decide) (by decide) (.slice A2 q.length c2) q.length cs [.slice A9 r.length c9] rfl rfl rfl (by intro u hu; simp only [List.mem_singleton] at hu; subst hu; rfl) (own_move HCS.out (fun b hb => HB5.out.block b (own_lt HCS.out b hb))) HB6.out HB6.out.size (by have := HLN.out; omega) ?_; intro v7 w7 hown7 hb7 hg7 hat7; obtain ⟨A8, c8, rfl⟩ := own_slice hown7; have HO7 := Aside0.mk hown7; have HB7 := Aside0.mk hb7; have HG7 := Aside0.mk hg7; have HA7 := Aside0.mk hat7; clear hown7 hb7 hat7; have hcz : ∃ v, w7.cell? (ad.add k) = some v := ⟨_, hg7.cell hy4 (HNT.out)⟩; obtain ⟨vz, hcz⟩ := hcz; have hfz : w7.frozen? (ad.add k) = false := (World.frozen?_of_block (hg7.block _ (World.block_lt_of_cell? _ _ hy4) HNT.out)).trans ((World.frozen?_of_block (HB5.out.block _ HLT.out)).trans HFY.out); refine hK.out _ _ (hg7.cell hy4 HNT.out) (fun hHeld => ?_); clear hK K; refine norm_ (a' := ?_) ?_ ?_; rotate_left
       ·show Act.put _ (some 47) _ = _
        simp only [Act.put, sA_, sB_, sC_, i64_w, i32_w]; rfl
       refine pure_ (i := 10) (N := some 48) (v := ?_) (a' := ?_) #[I,I,I,I,I,I,I,I,I,I,I,O] rfl rfl (by kernel_rfl) (fun _ _ _ h => h) (Or.inl ⟨by rfl, ?_⟩) ?_ ?_; rotate_left; (· intro w'; go_simp; with_reducible rfl); rotate_left; (· simp only [Act.put, sA_, sB_, sC_, i64_w, i32_w]; rfl); refine last_ (i := 11) (N := none) #[I,I,I,I,I,I,I,I,I,I,I,I] rfl rfl (by kernel_rfl) (by decide) (fun K hK => ?_); refine skip_ (w1 := ?_) (by rfl) rfl ?_ ?_; rotate_left; (· go_simp; rfl); refine hK.out _ _ ?_; clear hK K; refine done_ (by kernel_rfl) ?_; go_wp2; have HE := Aside0.mk (show (lc.set k (q ++ [r])) = cp l0 k (i + 1) by rw [HLC.out, HQ.out]; exact cp_push l0 k i rows r HRW.out HROW.out); have HW9 := HGR.out _ _ _ _ _ _ HB5.out HR5.out HG7.out HA7.out HO7.out; rw [HE.out, HLL.out] at HW9
       go_roundw
       case rel => exact ⟨i + 1, by omega, by go_num, ⟨Below.setCell HB7.out HBL.out _⟩, ⟨HW9⟩⟩
       case measure => simp [intOf]; omega
      ·have hie : i = rows.length := by omega
       subst hie; have HN := Aside0.mk (cp_next l0 k rows HRW.out); go_wp2
       go_roundw
       case rel => exact ⟨k + 1, by omega, by go_num, HB, ⟨by rw [← HN.out]; exact HV.out⟩⟩
       case measure => simp [intOf]; omega
    ·have hke : k = l0.length := by omega
     subst hke; rw [cp_all] at HV; go_wp2
     go_loopw [53] (fun u wr => ∃ (i : Nat) (lw : Wd), i ≤ l1.length ∧ u = .int .i64 i ∧ Aside0 (Below w.heap.size w wr) ∧ Aside0 (WRep wr w.heap.size (.slice A l0.length c) lw) ∧ Aside0 (stepsW l0 (l1.take i) = (lw, 0))) (fun u _ => l1.length - (intOf u).toNat)
     case atStart => exact ⟨0, l0, Nat.zero_le _, rfl, HB, HV, ⟨rfl⟩⟩
     case round =>
      clear HB HV; obtain ⟨i, lw, hi, rfl, HB, HV, HST⟩ := hrel; have HGD := Aside0.mk (stepsW_good l0 (l1.take i) HS6.out.2.2)
      by_cases hlti : i < l1.length
      ·obtain ⟨be, B2, d2, e2, hx0, hx1, hx2, hx3, hx4, hx5, hl2, hi2⟩ := at_T61 HR1.out i (by omega) (by omega)
       cases e2
       rw [Int.toNat_natCast] at hx0 hx1 hx2 hx3 hx4 hx5; replace hx0 := cell_below HB.out hx0; replace hx1 := cell_below HB.out hx1; replace hx2 := cell_below HB.out hx2; replace hx3 := cell_below HB.out hx3; replace hx4 := cell_below HB.out hx4; replace hx5 := cell_below HB.out hx5; have HRR := Aside0.mk hi2; have HRC := Aside0.mk hl2; have HCI : Aside0 (l1.take (i + 1) = l1.take i ++ [rd_T61 l1 (i : Int)]) := ⟨by rw [List.take_succ_eq_append_getElem hlti]; congr 2; simp [rd_T61, List.getD_eq_getElem?_getD, hlti]⟩; clear hi2 hl2; generalize rd_T61 l1 (i : Int) = ch at hx0 hx1 hx2 hx3 hx4 hx5 HRR HRC HCI
       have HSN : Aside0 (stepsW l0 (l1.take (i + 1)) = stepE lw ch) := ⟨by
        have := stepsW_snoc (l1.take i) l0 ch (by rw [HST.out]); rw [HST.out] at this
        rw [HCI.out]; exact this⟩
       have HCT := Aside0.mk (fun (W : World) (hb : Below w.heap.size w W) (hv : WRep W w.heap.size (.slice A l0.length c) lw) => apply_step w W (.slice A l0.length c) lw ch.f0 ch.f1 ch.f2 ch.f3 ch.f4 B2 d2 ch.f5 hb hv HRR.out HRC.out (n := 512 + (l1.take i).length) (by have := HGD.out.1; rw [HST.out] at this; exact this) (by rw [List.length_take]; omega))
       by_cases he : (stepS lw ch).2 = 0
       ·have heb : (stepW lw ch.f0 ch.f1 ch.f2 ch.f3 ch.f4 ch.f5).2 = 0 := he
        rw [heb] at HCT; have HE := Aside0.mk he; clear he heb
        go_wp2_with (go_at_call 44; refine (HCT.out _ ?b1 ?b2).mono ?_; (case b1 => exact below_alloc HB.out _); (case b2 => exact HV.out.below (below_alloc (Below.refl _ _) _)); rintro e w9 ⟨rfl, hv9, hb9⟩; have HV9 := Aside0.mk hv9; have HB9 := Aside0.mk hb9; clear hv9 hb9)
        go_roundw
        case rel => exact ⟨i + 1, (stepS lw ch).1, by omega, by go_num, HB9, HV9, ⟨by rw [HSN.out]; unfold stepE; rw [if_pos HE.out]⟩⟩
        case measure => simp [intOf]; omega
       ·have heb : (stepW lw ch.f0 ch.f1 ch.f2 ch.f3 ch.f4 ch.f5).2 ≠ 0 := he
        obtain ⟨er, her⟩ : ∃ er, er = (stepW lw ch.f0 ch.f1 ch.f2 ch.f3 ch.f4 ch.f5).2 := ⟨_, rfl⟩; rw [← her] at HCT heb; have hnb : (er != 0) = true := bne_iff_ne.2 heb
        have HAP : Aside0 (applyR l0 l1 = ([], er)) := ⟨by
         have h1 : (stepsW l0 (l1.take (i + 1))).2 = er := by rw [HSN.out]; unfold stepE; rw [if_neg he]; exact her.symm
         have h2 : (stepsW l0 l1).2 = er := by
          have := stepsW_stop (l1.take (i + 1)) (l1.drop (i + 1)) l0 (by rw [h1]; exact heb); rw [List.take_append_drop] at this; rw [this, h1]
         unfold applyR
         rw [HB0.out, if_neg (by simp), if_neg hll, if_pos (by rw [h2]; exact heb), h2]⟩
        clear he heb her
        go_wp2_with (go_at_call 44; refine (HCT.out _ ?b1 ?b2).mono ?_; (case b1 => exact below_alloc HB.out _); (case b2 => exact HV.out.below (below_alloc (Below.refl _ _) _)); rintro e w9 ⟨rfl, hv9, hb9⟩; have HV9 := Aside0.mk hv9; have HB9 := Aside0.mk hb9; clear hv9 hb9)
        go_ret2; exact ⟨.slice none 0 0, by rw [HAP.out]; rfl, by rw [HAP.out]; exact Kd.R_nil _ _ _ _ _, HB9.out⟩
      ·have hie : i = l1.length := by omega
       subst hie; rw [List.take_length] at HST HGD; have hsum := HGD.out.1.sum; rw [HGD.out.2, HST.out] at hsum; have hbig : sumLen lw ≤ 6 * (512 + 8192) := Nat.le_trans hsum (Nat.mul_le_mul (by omega) (by omega))
       have hlw : lw.length = l0.length := by have := HGD.out.2; rw [HST.out] at this; exact this
       have HLW := Aside0.mk hlw; clear hsum hlw; go_wp2
       go_loopw [66, 13] (fun u v wr' => ∃ k : Nat, k ≤ l0.length ∧ u = .int .i64 k ∧ v = .int .i64 (sumLen (lw.take k) : Nat) ∧ Aside0 (wr' = wr)) (fun u _ _ => l0.length - (intOf u).toNat)
       case atStart => exact ⟨0, Nat.zero_le _, rfl, rfl, ⟨rfl⟩⟩
       case round =>
        obtain ⟨k, hk, rfl, rfl, HWR⟩ := hrel; obtain ⟨HWR⟩ := HWR; subst HWR
        by_cases hltk' : k < l0.length
        ·have hltk : k < lw.length := by have := HLW.out; omega
         have hkr : lw[k]? = some lw[k] := List.getElem?_eq_getElem hltk; obtain ⟨ad, c', hAe, _⟩ := HV.out.known hkr
         injection hAe with hAe _ _
         subst hAe; obtain ⟨A2, c2, hy, _, hrw, _⟩ := WRep.seen (show WRep wr w.heap.size (.slice (some ad) lw.length c) lw by rw [HLW.out]; exact HV.out) hkr; have hsn := sumLen_snoc lw k hltk; have hst := sumLen_take lw (k + 1)
         have hb1 : ((sumLen (lw.take k) : Nat) : Int) + (lw[k].length : Int) < 4611686018427387904 := by omega
         have HSN := Aside0.mk hsn; clear hsn hst hkr; go_wp2
         go_roundw
         case rel => exact ⟨k + 1, by omega, by go_num, by rw [HSN.out]; rfl, by first | exact ⟨rfl⟩ | exact ⟨trivial⟩⟩
         case measure => simp [intOf]; omega
        ·have hke : k = l0.length := by omega
         subst hke
         have htk : lw.take l0.length = lw := by rw [← HLW.out]; exact List.take_length
         rw [htk]; clear htk
         have HAP : Aside0 (applyR l0 l1 = if 512 < (sumLen lw : Int) then ([], 4) else (lw, 0)) := ⟨by
          unfold applyR; rw [HB0.out, if_neg (by simp), if_neg hll, HST.out, if_neg (by simp)]
          rfl⟩
         by_cases hbg : (512 : Int) < (sumLen lw : Int)
         (· have hbb := decide_eq_true hbg; rw [if_pos hbg] at HAP; go_wp2; go_ret2; exact ⟨.slice none 0 0, by rw [HAP.out]; rfl, by rw [HAP.out]; exact Kd.R_nil _ _ _ _ _, HB.out⟩); (· have hbb := decide_eq_false hbg; rw [if_neg hbg] at HAP; go_wp2; go_ret2; exact ⟨.slice A l0.length c, by rw [HAP.out]; rfl, by rw [HAP.out]; exact HV.out.R, HB.out⟩)
def diff_Apply.f (l0 : Wd) (l1 : List S61) : Option (Wd × Int) := if sumLen l0 < 4611686018427387904 then some (applyR l0 l1) else none
theorem diff_Apply.calls (A0 : Option Addr) (c0 : Nat) (l0 : List (List (List Int))) (A1 : Option Addr) (c1 : Nat) (l1 : List S61) (r1 : List (List (List Int))) (r2 : Int) (w : World) (hr0 : Kd.C (Kd.slice 22 (Kd.slice 3 (Kd.int .i64))) w A0 l0.length l0) (hc0 : l0.length ≤ c0)
  (hr1 : Kd.C k61 w A1 l1.length l1) (hc1 : l1.length ≤ c1) (h : diff_Apply.f l0 l1 = some (r1, r2)) : Calls Try.prog 19 #[.slice A0 l0.length c0, .slice A1 l1.length c1] w fun e w' => ∃ v0_ : Value, e = .returned (.tuple #[v0_, .int .i64 r2]) ∧ Kd.R (Kd.slice 22 (Kd.slice 3 (Kd.int .i64))) 64 w' w.heap.size (fun _ => True) v0_ r1 ∧ Below w.heap.size w w' := by
 unfold diff_Apply.f at h
 split at h
 ·next hs =>
  have e := Option.some.inj h; have := apply_any A0 c0 l0 A1 c1 l1 w hr0 hc0 hr1 hc1 hs; rw [e] at this; exact this
 ·cases h
end Go.Proofs.Ytcgpemefmakjiaa.PX
namespace Go.Proofs.Ytcgpemefmakjiaa.Iter
open Go.RowKit
structure KeepBody (B : Nat) (ts : List Nat) (W W' : World) : Prop where
 os : W'.os = W.os
 tape : W'.tape = W.tape
 output : W'.output = W.output
 size : W.heap.size ≤ W'.heap.size
 same : ∀ (i : Nat) (o : Obj), W.heap[i]? = some o → (i < B ∨ o.isCells = false ∨ ∃ c t fr, o = .cells c t fr ∧ t ∉ ts) → W'.heap[i]? = some o
structure KeepIter (B : Nat) (ts : List Nat) (W W' : World) : Prop where
 os : W'.os = W.os
 tape : W'.tape = W.tape
 output : W'.output = W.output
 size : W.heap.size ≤ W'.heap.size
 same : ∀ (i : Nat) (o : Obj), W.heap[i]? = some o → (i < B ∨ ∃ c t fr, o = .cells c t fr ∧ t ∉ ts) → W'.heap[i]? = some o
variable {B : Nat} {ts : List Nat} {W W' W1 W2 : World}
theorem KeepBody.refl (B : Nat) (ts : List Nat) (W : World) : KeepBody B ts W W := ⟨rfl, rfl, rfl, Nat.le_refl _, fun _ _ h _ => h⟩
theorem KeepBody.trans (h : KeepBody B ts W W1) (k : KeepBody B ts W1 W2) : KeepBody B ts W W2 := ⟨k.os.trans h.os, k.tape.trans h.tape, k.output.trans h.output, Nat.le_trans h.size k.size, fun i o hi ho => k.same i o (h.same i o hi ho) ho⟩
theorem KeepBody.alloc (B : Nat) (ts : List Nat) (W : World) (o : Obj) : KeepBody B ts W (W.alloc o) := ⟨rfl, rfl, rfl, by simp, fun k o' hk _ => (Below.heap_alloc W o k (Array.getElem?_eq_some_iff.1 hk).1).trans hk⟩
theorem KeepBody.grown {row : Option Nat} (hg : W.grownBy W' row) (hr : ∀ r, row = some r → B ≤ r ∧ ∀ o, W.heap[r]? = some o → ∃ c t fr, o = .cells c t fr ∧ t ∈ ts) : KeepBody B ts W W' :=
 ⟨hg.os, hg.tape, hg.output, hg.size, fun i o hi ho => (hg.block i (Array.getElem?_eq_some_iff.1 hi).1 (fun e => by
  obtain ⟨h1, h2⟩ := hr i e.symm; obtain ⟨c, t, fr, h3, h4⟩ := h2 o hi; subst h3
  rcases ho with ho | ho | ⟨c', t', fr', ho, hn⟩
  (· omega)
  ·simp [Obj.isCells] at ho
  ·injection ho with _ ho
   exact hn (ho ▸ h4))).trans hi⟩
theorem KeepBody.setCell {p : Addr} (u : Value) (hp : B ≤ p.block) (ht : ∀ o, W.heap[p.block]? = some o → ∃ c t fr, o = .cells c t fr ∧ t ∈ ts) : KeepBody B ts W (W.setCell p u) :=
 ⟨rfl, rfl, rfl, by show W.heap.size ≤ (W.heap.modify _ _).size; rw [Array.size_modify]; exact Nat.le_refl _, fun i o hi ho => (Below.heap_setCell W p u i (fun e => by
  subst e; obtain ⟨c, t, fr, h3, h4⟩ := ht o hi; subst h3
  rcases ho with ho | ho | ⟨c', t', fr', ho, hn⟩
  (· omega)
  ·simp [Obj.isCells] at ho
  ·injection ho with _ ho
   exact hn (ho ▸ h4))).trans hi⟩
theorem KeepBody.iter (h : KeepBody B ts W W') : KeepIter B ts W W' := ⟨h.os, h.tape, h.output, h.size, fun i o hi ho => h.same i o hi (ho.imp id (fun h => .inr h))⟩
theorem KeepIter.trans (h : KeepIter B ts W W1) (k : KeepIter B ts W1 W2) : KeepIter B ts W W2 := ⟨k.os.trans h.os, k.tape.trans h.tape, k.output.trans h.output, Nat.le_trans h.size k.size, fun i o hi ho => k.same i o (h.same i o hi ho) ho⟩
theorem KeepIter.below (h : KeepIter B ts W W') (hB : B ≤ W.heap.size) : Below B W W' :=
 ⟨h.os, h.tape, h.output, h.size, fun k hk => by
  have hk' : k < W.heap.size := by omega
  rw [Array.getElem?_eq_getElem hk']
  exact h.same k _ (Array.getElem?_eq_getElem hk') (.inl hk)⟩
theorem KeepIter.putObj {l : Nat} {o : Obj} (o' : Obj) (hB : B ≤ l) (hl : W.heap[l]? = some o) (ho : o.isCells = false) : KeepIter B ts W (W.putObj l o') :=
 ⟨rfl, rfl, rfl, by simp, fun i o2 hi h2 => (World.putObj_heap_other (fun e => by
  subst e; rw [hl] at hi
  injection hi with hi
  subst hi
  rcases h2 with h2 | ⟨c, t, fr, h2, _⟩
  (· omega)
  ·subst h2; simp [Obj.isCells] at ho)).trans hi⟩
def StepI (B : Nat) (tI : List Nat) (W W' : World) : Prop := ∃ row, W.grownBy W' row ∧ ∀ r, row = some r → B ≤ r ∧ ∃ o, W.heap[r]? = some o ∧ (o.isCells = false ∨ ∃ c t fr, o = .cells c t fr ∧ t ∈ tI)
def StepC (B : Nat) (tI : List Nat) (W W' : World) : Prop := ∃ row, W.grownBy W' row ∧ ∀ r, row = some r → B ≤ r ∧ ∃ c t fr, W.heap[r]? = some (.cells c t fr) ∧ t ∈ tI
theorem StepC.i {B B' : Nat} {tI : List Nat} (h : StepC B tI W W') (hB : B' ≤ B) : StepI B' tI W W' := by
 obtain ⟨row, hg, hr⟩ := h; refine ⟨row, hg, fun r e => ?_⟩; obtain ⟨h1, c, t, fr, h2, h3⟩ := hr r e; exact ⟨by omega, _, h2, .inr ⟨c, t, fr, rfl, h3⟩⟩
theorem StepI.putObj {tI : List Nat} {l : Nat} {o : Obj} (o' : Obj) (hB : B ≤ l) (hl : W.heap[l]? = some o) (ho : o.isCells = false) : StepI B tI W (W.putObj l o') :=
 ⟨some l, grownBy_putObj' W l o', fun r e => by cases e; exact ⟨hB, o, hl, .inl ho⟩⟩
theorem StepI.alloc (B : Nat) (tI : List Nat) (W : World) (o : Obj) : StepI B tI W (W.alloc o) := ⟨none, World.grownBy_alloc W o none, fun r e => by cases e⟩
theorem StepC.alloc (B : Nat) (tI : List Nat) (W : World) (o : Obj) : StepC B tI W (W.alloc o) := ⟨none, World.grownBy_alloc W o none, fun r e => by cases e⟩
theorem StepI.other {tI : List Nat} (h : StepI B tI W W') {i : Nat} {c : Array Value} {t : Nat} {fr : Nat × Nat} (hi : W.heap[i]? = some (.cells c t fr)) (ht : t ∉ tI) : W'.heap[i]? = some (.cells c t fr) := by
 obtain ⟨row, hg, hr⟩ := h; refine (hg.block i (Array.getElem?_eq_some_iff.1 hi).1 (fun e => ?_)).trans hi; obtain ⟨_, o, ho, hc⟩ := hr i e.symm; rw [hi] at ho
 injection ho with ho
 subst ho
 rcases hc with hc | ⟨c', t', fr', he, hm⟩
 ·simp [Obj.isCells] at hc
 ·injection he with _ he
  exact ht (he ▸ hm)
theorem StepI.below {tI : List Nat} {n0 : Nat} {w : World} (h : StepI B tI W W') (hb : Below n0 w W) (hn : n0 ≤ w.heap.size) (hB : n0 ≤ B) : Below n0 w W' := by
 obtain ⟨row, hg, hr⟩ := h; exact hb.grown hg (Nat.le_trans hn hb.size) (fun k e => Nat.le_trans hB (hr k e).1)
theorem StepC.nocells {tI : List Nat} (h : StepC B tI W W') {i : Nat} {o : Obj} (hi : W.heap[i]? = some o) (ho : o.isCells = false) : W'.heap[i]? = some o := by
 obtain ⟨row, hg, hr⟩ := h; refine (hg.block i (Array.getElem?_eq_some_iff.1 hi).1 (fun e => ?_)).trans hi; obtain ⟨_, c, t, fr, h2, _⟩ := hr i e.symm; rw [hi] at h2
 injection h2 with h2
 subst h2
 simp [Obj.isCells] at ho
def onPost (B : Nat) (ts : List Nat) (W : World) (R : World → Prop) : Exit → Act → World → Prop
 | .normal, _, W' => KeepBody B ts W W' ∧ R W'
 | _, _, _ => False
def Iterates {α : Type} (F : Fence) (n : Nat) (P : Program) (gf : Nat) (lb : Array Value) (enc : α → Array Value) (T : α → World → Prop) (S : List α → World → Prop) (N : Nat) (B : Nat) (ts tI : List Nat) (l : Nat) (W1 : World) : Prop :=
 ∀ J : List α → World → Prop, (∀ s A C, J s A → StepC W1.heap.size tI A C → J s C) →
  (∀ pre x W, J pre W → pre.length < N → T x W → YieldAt F (n - 1) P l (enc x) W fun e W' => e = .returned (.bool true) ∧ J (pre ++ [x]) W' ∧ KeepIter B ts W W') →
  J [] W1 → CallsIn F n P gf (#[.func (.yield l) #[] #[]] ++ lb) W1 fun e W' => (∃ v, e = .returned v) ∧ ∃ xs, S xs W' ∧ J xs W'
variable {F : Fence} {n : Nat} {P : Program}
theorem wpIn_range_on {α : Type} {g : Operand} {ps : Array Tmp} {assign body : Code} {Q : Exit → Act → World → Prop} {a : Act} {w : World}
  (hro : F.round = none) (h1 : 1 ≤ n) {gf : Nat} {lb : Array Value} (hg : a.eval g = .func (.func gf) #[] lb) (hFg : F.fn gf) (eg : ∀ args w, (callFunc gf args).run P w = .ok (.enter gf args) w)
  {enc : α → Array Value} {T : α → World → Prop} {S : List α → World → Prop} {N : Nat} {B : Nat} {ts tI : List Nat} (hB : B ≤ w.heap.size)
  (hiter : ∀ L, Iterates F (n - 1) P gf lb enc T S N B ts tI (w.heap.size + 1) ((w.alloc (.deferred (some []))).alloc (.loop L)))
  (hps : ∀ x, (enc x).size = ps.size)
  (I : List α → World → Prop) (Ax : α → Act → World → Prop)
  (hI : ∀ s A C, I s A → StepI w.heap.size tI A C → I s C) (hT : ∀ x A C, T x A → StepI w.heap.size tI A C → T x C) (hS : ∀ s A C, S s A → StepI w.heap.size tI A C → S s C) (hAx : ∀ x a A C, Ax x a A → StepI w.heap.size tI A C → Ax x a C)
  (h0 : I [] w)
  (hassign : ∀ (l : Nat) (pre : List α) (x : α) (W : World) (K : Act → World → Prop), I pre W → T x W → (∀ a1 W1, KeepBody B ts W W1 → I pre W1 → T x W1 → Ax x a1 W1 → K a1 W1) →
   assign.wpIn (F.inRound l) (n - 1 - 1) P (Exit.then K (fun _ _ _ => False)) { tmps := (ps.zip (enc x)).foldl (fun t (p, v) => t.setIfInBounds p v) a.tmps, defers := [] } W)
  (hbody : ∀ (l : Nat) (pre : List α) (x : α) (a1 : Act) (W : World), I pre W → pre.length < N → T x W → Ax x a1 W → body.wpIn (F.inRound l) (n - 1 - 1) P (onPost B ts W (I (pre ++ [x]))) a1 W)
  (hdone : ∀ (D : Nat) (xs : List α) (W : World), w.heap.size ≤ D → S xs W → I xs W → W.heap[D]? = some (.deferred (some [])) → Q .normal { a with defers := { target := .collected D, args := #[] } :: a.defers } W) :
  (Code.rangeFunc g ps assign body).wpIn F n P Q a w := by
 refine wpIn_rangeFunc ?_; intro fn hfn; rw [hro]
 obtain ⟨rec, hrec⟩ : ∃ rec : LoopState → Option Code → Loop, rec = fun st pe => { state := st, pending := pe, fn, tmps := a.tmps, params := ps, assign, body, defers := w.heap.size } := ⟨_, rfl⟩
 have hit := hiter (rec .ready none); obtain ⟨W1, hW1⟩ : ∃ W1, (w.alloc (.deferred (some []))).alloc (.loop (rec .ready none)) = W1 := ⟨_, rfl⟩; rw [hW1] at hit
 have hsz : W1.heap.size = w.heap.size + 2 := by rw [← hW1]; simp
 have hL1 : W1.heap[w.heap.size + 1]? = some (.loop (rec .ready none)) := by
  rw [← hW1]; have := World.alloc_heap_new (w.alloc (.deferred (some []))) (.loop (rec .ready none)); rwa [World.size_alloc] at this
 have hK1 : W1.heap[w.heap.size]? = some (.deferred (some [])) := by
  rw [← hW1]; exact (Below.heap_alloc _ _ _ (by simp)).trans (World.alloc_heap_new w _)
 have hI1 : I [] W1 := by rw [← hW1]; exact hI _ _ _ (hI _ _ _ h0 (StepI.alloc _ _ _ _)) (StepI.alloc _ _ _ _)
 refine ⟨w.heap.size + 1, [{ target := .collected w.heap.size, args := #[] }], W1, { target := .fn (.func gf) lb, args := #[.func (.yield (w.heap.size + 1)) #[] #[]] }, W1, gf,
  #[.func (.yield (w.heap.size + 1)) #[] #[]] ++ lb, W1, ?_, ?_, ?_, ?_, fun _ => h1, ?_⟩
 (· rw [← hW1, hrec]; exact run_enterLoop_outer _ _ _ _ _)
 ·simp only [resolve, hg]
  simp [go_sem]
 (· intro f' hf'; simp [Target.leads] at hf'; subst hf'; exact hFg)
 ·simp [invoke, go_sem, eg]
 ·refine (hit (fun pre W => I pre W ∧ W.heap[w.heap.size + 1]? = some (.loop (rec .ready none)) ∧ W.heap[w.heap.size]? = some (.deferred (some [])))
   (fun s A C hs hst => ⟨hI s A C hs.1 (hst.i (by omega)), hst.nocells hs.2.1 rfl, hst.nocells hs.2.2 rfl⟩) ?_ ⟨hI1, hL1, hK1⟩).mono ?_
  ·rintro pre x W ⟨hi, hl, hk⟩ hlen ht
   have hlt : w.heap.size + 1 < W.heap.size := (Array.getElem?_eq_some_iff.1 hl).1; have hy := run_yield (P := P) (args := enc x) hl (by rw [hrec]; exact hps x); rw [hrec] at hy; refine ⟨fn, _, assign, body, hy, roundIn_of_wpIn hfn (hassign _ pre x W _ hi ht (fun a1 W2 hkb hi2 ht2 hax => ?_))⟩; have hl2 : W2.heap[w.heap.size + 1]? = some (.loop (rec .ready none)) := hkb.same _ _ hl (.inr (.inl rfl)); have hk2 : W2.heap[w.heap.size]? = some (.deferred (some [])) := hkb.same _ _ hk (.inr (.inl rfl)); have hlt2 : w.heap.size + 1 < W2.heap.size := (Array.getElem?_eq_some_iff.1 hl2).1; refine ⟨_, run_beginRound hl2 (by rw [hrec]), ?_⟩; obtain ⟨W3, hW3⟩ : ∃ W3, W2.putObj (w.heap.size + 1) (.loop { rec .ready none with state := .busy }) = W3 := ⟨_, rfl⟩
   have hst : StepI w.heap.size tI W2 W3 := by rw [← hW3]; exact StepI.putObj _ (by omega) hl2 rfl
   have hl3 : W3.heap[w.heap.size + 1]? = some (.loop { rec .ready none with state := .busy }) := by rw [← hW3]; exact World.putObj_heap_same hlt2
   have hk3 : W3.heap[w.heap.size]? = some (.deferred (some [])) := by rw [← hW3]; exact (World.putObj_heap_other (by omega)).trans hk2
   have hw3 : KeepIter B ts W2 W3 := by rw [← hW3]; exact KeepIter.putObj _ (by omega) hl2 rfl
   rw [hW3]; refine wpIn_mono (hbody _ pre x a1 W3 (hI _ _ _ hi2 hst) hlen (hT _ _ _ ht2 hst) (hAx _ _ _ _ hax hst)) ?_; rintro e a3 W4 hp
   cases e with
   | normal =>
    obtain ⟨hkb4, hi4⟩ := hp; have hl4 := hkb4.same _ _ hl3 (.inr (.inl rfl)); have hk4 := hkb4.same _ _ hk3 (.inr (.inl rfl)); have hr := run_endRound (P := P) none hl4; refine ⟨_, _, hr, rfl, ⟨hI _ _ _ hi4 (StepI.putObj _ (by omega) hl4 rfl), ?_, (World.putObj_heap_other (by omega)).trans hk4⟩, ((hkb.iter.trans hw3).trans hkb4.iter).trans (KeepIter.putObj _ (by omega) hl4 rfl)⟩; rw [hrec]; exact World.putObj_heap_same (Array.getElem?_eq_some_iff.1 hl4).1
   | ret => exact hp.elim
   | exit id => exact hp.elim
   | goto t => exact hp.elim
   | panic ch => exact hp.elim
   | outgrown => exact hp.elim
  ·rintro e W2 ⟨⟨v, rfl⟩, xs, hs, hi, hl, hk⟩
   have hst : ∀ o', StepI w.heap.size tI W2 (W2.putObj (w.heap.size + 1) o') := fun o' => StepI.putObj _ (by omega) hl rfl
   exact ⟨none, _, by have := run_endLoop (P := P) hl (by rw [hrec]; simp); rw [hrec] at this; exact this, hdone _ xs _ (Nat.le_refl _) (hS _ _ _ hs (hst _)) (hI _ _ _ hi (hst _)) ((World.putObj_heap_other (by omega)).trans hk)⟩
end Go.Proofs.Ytcgpemefmakjiaa.Iter
namespace Go.Proofs.Ytcgpemefmakjiaa.PX
open Go.RowKit Go.Shelf Go.Proofs.Ytcgpemefmakjiaa.Iter Go.Proofs.YtcgpemefmakjiaaW.PrintWords Go.Proofs.YtcgpemefmakjiaaW.PrintLast Go.Proofs.YtcgpemefmakjiaaW.PrintMore
set_option linter.unusedVariables false
set_option linter.unusedSimpArgs false
attribute [local go_sem] Oper.semAt_some
theorem room_none {F : Fence} (hd : F.depth = none) (k : Nat) : F.room k := fun d h => by rw [hd] at h; cases h
theorem round_any {F : Fence} (hd : F.depth = none) {m m' : Nat} {P : Program} {l : Nat} {f : FuncId} {tmps : Array Value} {assign body : Code} {w : World} {R : Ending → World → Prop}
  (h : RoundIn F m P l f tmps assign body w R) : RoundIn F m' P l f tmps assign body w R := ⟨h.1, fun c cs _ => h.2 c cs (room_none hd _)⟩
theorem yield_any {F : Fence} (hd : F.depth = none) {m : Nat} (m' : Nat) {P : Program} {l : Nat} {args : Array Value} {W : World} {R : Ending → World → Prop} (h : YieldAt F m P l args W R) : YieldAt F m' P l args W R := by
 obtain ⟨fn, tmps, assign, body, hy, hR⟩ := h; exact ⟨fn, tmps, assign, body, hy, round_any hd hR⟩
set_option maxHeartbeats 1000000 in
theorem say_in (n l : Nat) (k i f o nw : Int) (v : Value) (bm by_ : Nat) (W : World) (R : World → Prop)
  (hm : W.cell? ⟨bm, 0, none⟩ = some (.bool true)) (hyb : W.cell? ⟨by_, 0, none⟩ = some (.func (.yield l) #[] #[])) (hv : v.oneCell' = true)
  (hY : YieldAt Fence.wide n Try.prog l #[.agg #[.int .i64 k, .int .i64 i, .int .i64 f, .int .i64 o, .int .i64 nw, v]] (W.alloc (.cells #[.int .i64 k, .int .i64 i, .int .i64 f, .int .i64 o, .int .i64 nw, v] 61)) fun e W' => e = .returned (.bool true) ∧ R W')
  (hR : ∀ W', R W' → W'.cell? ⟨bm, 0, none⟩ = some (.bool true) ∧ W'.frozen? ⟨bm, 0, none⟩ = false) :
  CallsIn Fence.wide n Try.prog 65 #[.agg #[.int .i64 k, .int .i64 i, .int .i64 f, .int .i64 o, .int .i64 nw, v], .pointer (some ⟨bm, 0, none⟩), .pointer (some ⟨by_, 0, none⟩)] W fun e W' =>
   (∃ v, e = .returned v) ∧ ∃ W2, R W2 ∧ W' = W2.setCell ⟨bm, 0, none⟩ (.bool true) := by
 refine callsIn_of_wp Try.func65 rfl trivial ?_ rfl; simp only [Try.ntmps65, List.size_toArray, List.length_cons, List.length_nil, Nat.reduceAdd, Nat.reduceSub, Array.replicate_succ, Array.replicate_zero, List.push_toArray, List.append_toArray, List.nil_append, List.cons_append]; obtain ⟨fn, tmps, assign, body, hy, hRR⟩ := yield_any (m' := n - 1) rfl hY; clear hY; have hm1 := World.cell?_alloc_lt W (.cells #[.int .i64 k, .int .i64 i, .int .i64 f, .int .i64 o, .int .i64 nw, v] 61) ⟨bm, 0, none⟩ (World.block_lt_of_cell? W _ hm); have hy1 := World.cell?_alloc_lt W (.cells #[.int .i64 k, .int .i64 i, .int .i64 f, .int .i64 o, .int .i64 nw, v] 61) ⟨by_, 0, none⟩ (World.block_lt_of_cell? W _ hyb); rw [hm] at hm1; rw [hyb] at hy1; clear hm hyb
 gi_wp2
 refine ⟨(fun h => by cases h), hRR.mono ?_⟩; rintro e W3 ⟨rfl, hr⟩; obtain ⟨hm3, hf3⟩ := hR W3 hr; have HR := Lib.hid hr; clear hr hR hy hRR
 gi_wp2
 go_end0
 exact ⟨⟨_, rfl⟩, W3, HR.out, rfl⟩
def setAt (kind : Int) (i : Nat) (ra rb : List Int) (k : Nat) : List S61 := if rd rb k = rd ra k then [] else [⟨kind, i, k, rd ra k, rd rb k, []⟩]
def setRow (kind : Int) (i : Nat) (ra rb : List Int) (n : Nat) : List S61 := (List.range n).flatMap (setAt kind i ra rb)
def setAll (kind : Int) (a b : List (List Int)) (m : Nat) : List S61 := (List.range m).flatMap fun i => setRow kind i (rd_L1 a i) (rd_L1 b i) (rd_L1 a i).length
def takeL (kind : Int) (a : List (List Int)) (j : Nat) : List S61 := (List.range j).map fun (q : Nat) => ⟨kind, (a.length : Int) - 1 - q, -2, 0, 0, rd_L1 a ((a.length : Int) - 1 - q)⟩
def addL (kind : Int) (b : List (List Int)) (m j : Nat) : List S61 := (List.range j).map fun (q : Nat) => ⟨kind, (m : Int) + q, -1, 0, 0, rd_L1 b ((m : Int) + q)⟩
def chgs (kind : Int) (a b : List (List Int)) (m : Nat) : List S61 := setAll kind a b m ++ takeL kind a (a.length - m) ++ addL kind b m (b.length - m)
theorem setRow_snoc (kind : Int) (i : Nat) (ra rb : List Int) (n : Nat) : setRow kind i ra rb (n + 1) = setRow kind i ra rb n ++ setAt kind i ra rb n := by simp [setRow, List.range_succ, List.flatMap_append]
theorem setAll_snoc (kind : Int) (a b : List (List Int)) (m : Nat) : setAll kind a b (m + 1) = setAll kind a b m ++ setRow kind m (rd_L1 a m) (rd_L1 b m) (rd_L1 a m).length := by simp [setAll, List.range_succ, List.flatMap_append]
theorem takeL_snoc (kind : Int) (a : List (List Int)) (j : Nat) : takeL kind a (j + 1) = takeL kind a j ++ [⟨kind, (a.length : Int) - 1 - j, -2, 0, 0, rd_L1 a ((a.length : Int) - 1 - j)⟩] := by simp [takeL, List.range_succ]
theorem addL_snoc (kind : Int) (b : List (List Int)) (m j : Nat) : addL kind b m (j + 1) = addL kind b m j ++ [⟨kind, (m : Int) + j, -1, 0, 0, rd_L1 b ((m : Int) + j)⟩] := by simp [addL, List.range_succ]
abbrev Yd := S61 × Value
def Yd.cells (x : Yd) : Array Value := #[.int .i64 x.1.f0, .int .i64 x.1.f1, .int .i64 x.1.f2, .int .i64 x.1.f3, .int .i64 x.1.f4, x.2]
def Yd.enc (x : Yd) : Array Value := #[.agg x.cells]
def Yd.T (B : Nat) (x : Yd) (W : World) : Prop := Kd.R (Kd.int .i64) 3 W B (fun _ => True) x.2 x.1.f5
theorem Yd.T_one {B : Nat} {x : Yd} {W : World} (h : x.T B W) : x.2.oneCell' = true := by
 obtain ⟨A, c, e⟩ := Kd.R_slice h; rw [e]; rfl
structure Ctx (w0 : World) (l : Nat) (kind : Int) (m : Nat) (A Ab : Option Addr) (ca cb : Nat) (a b : List (List Int)) (bm ba bb bk gm gy : Nat) (wr : World) : Prop where
 m_ : wr.heap[bm]? = some (.cells #[.int .i64 m] 3 (0, 0))
 a_ : wr.heap[ba]? = some (.cells #[.slice A a.length ca] 64 (0, 0))
 b_ : wr.heap[bb]? = some (.cells #[.slice Ab b.length cb] 64 (0, 0))
 k_ : wr.heap[bk]? = some (.cells #[.int .i64 kind] 3 (0, 0))
 more : wr.heap[gm]? = some (.cells #[.bool true] 4 (0, 0))
 yb : wr.heap[gy]? = some (.cells #[.func (.yield l) #[] #[]] 104 (0, 0))
 bel : Below w0.heap.size w0 wr
section
variable {w0 : World} {l : Nat} {kind : Int} {m : Nat} {A Ab : Option Addr} {ca cb : Nat} {a b : List (List Int)} {bm ba bb bk gm gy : Nat} {wr wr' : World}
theorem Ctx.later (h : Ctx w0 l kind m A Ab ca cb a b bm ba bb bk gm gy wr) (hb : Below wr.heap.size wr wr') : Ctx w0 l kind m A Ab ca cb a b bm ba bb bk gm gy wr' := by
 have q : ∀ i o, wr.heap[i]? = some o → wr'.heap[i]? = some o := fun i o hi => (hb.block i (Array.getElem?_eq_some_iff.1 hi).1).trans hi
 exact ⟨q _ _ h.m_, q _ _ h.a_, q _ _ h.b_, q _ _ h.k_, q _ _ h.more, q _ _ h.yb, h.bel.trans (hb.mono h.bel.size)⟩
theorem Ctx.keep (h : Ctx w0 l kind m A Ab ca cb a b bm ba bb bk gm gy wr) (hb : KeepIter w0.heap.size [30, 61] wr wr') : Ctx w0 l kind m A Ab ca cb a b bm ba bb bk gm gy wr' := by
 have q : ∀ (i : Nat) (c : Array Value) (t : Nat), wr.heap[i]? = some (Obj.cells c t (0, 0)) → t ∉ [30, 61] → wr'.heap[i]? = some (.cells c t (0, 0)) := fun i c t hi ht => hb.same _ _ hi (.inr ⟨c, t, _, rfl, ht⟩)
 exact ⟨q _ _ _ h.m_ (by decide), q _ _ _ h.a_ (by decide), q _ _ _ h.b_ (by decide), q _ _ _ h.k_ (by decide), q _ _ _ h.more (by decide), q _ _ _ h.yb (by decide), h.bel.trans (hb.below h.bel.size)⟩
theorem Ctx.set (h : Ctx w0 l kind m A Ab ca cb a b bm ba bb bk gm gy wr) (hg : w0.heap.size ≤ gm) : Ctx w0 l kind m A Ab ca cb a b bm ba bb bk gm gy (wr.setCell ⟨gm, 0, none⟩ (.bool true)) := by
 have q : ∀ (i : Nat) (c : Array Value) (t : Nat), wr.heap[i]? = some (Obj.cells c t (0, 0)) → t ≠ 4 → (wr.setCell ⟨gm, 0, none⟩ (.bool true)).heap[i]? = some (.cells c t (0, 0)) := fun i c t hi ht => (Below.heap_setCell wr _ _ i (fun e => by
  subst e; have := h.more; rw [hi] at this
  injection this with this
  injection this with _ this
  exact ht this)).trans hi
 refine ⟨q _ _ _ h.m_ (by decide), q _ _ _ h.a_ (by decide), q _ _ _ h.b_ (by decide), q _ _ _ h.k_ (by decide), ?_, q _ _ _ h.yb (by decide), h.bel.setCell (p := ⟨gm, 0, none⟩) hg _⟩; have := blk_set h.more 0 (.bool true)
 simpa using this
theorem say_step {n N : Nat} {B1 : Nat} (J : List Yd → World → Prop) (hJ : ∀ s A C, J s A → StepC B1 [4] A C → J s C)
  (hY : ∀ pre x W, J pre W → pre.length < N → x.T w0.heap.size W → YieldAt Fence.wide (n - 1) Try.prog l x.enc W fun e W' => e = .returned (.bool true) ∧ J (pre ++ [x]) W' ∧ KeepIter w0.heap.size [30, 61] W W')
  (hg1 : B1 ≤ gm) (hB : w0.heap.size ≤ B1) (pre : List Yd) (x : Yd) (W : World) (hj : J pre W) (hlen : pre.length < N) (hc : Ctx w0 l kind m A Ab ca cb a b bm ba bb bk gm gy W) (ht : x.T w0.heap.size W) (n' : Nat) :
  CallsIn Fence.wide n' Try.prog 65 #[.agg #[.int .i64 x.1.f0, .int .i64 x.1.f1, .int .i64 x.1.f2, .int .i64 x.1.f3, .int .i64 x.1.f4, x.2], .pointer (some ⟨gm, 0, none⟩), .pointer (some ⟨gy, 0, none⟩)] W fun e W' =>
   (∃ v, e = .returned v) ∧ J (pre ++ [x]) W' ∧ Ctx w0 l kind m A Ab ca cb a b bm ba bb bk gm gy W' := by
 have hal : Below W.heap.size W (W.alloc (.cells x.cells 61)) := below_alloc (Below.refl _ _) _
 have h1 := say_in n' l x.1.f0 x.1.f1 x.1.f2 x.1.f3 x.1.f4 x.2 gm gy W (fun W2 => J (pre ++ [x]) W2 ∧ Ctx w0 l kind m A Ab ca cb a b bm ba bb bk gm gy W2)
  (cell_of_row _ _ 0 _ 4 (0, 0) hc.more) (cell_of_row _ _ 0 _ 104 (0, 0) hc.yb) (Yd.T_one ht)
  (by
   obtain ⟨fn, tmps, assign, body, hy, hR⟩ := yield_any (F := Fence.wide) rfl n' (hY pre x _ (hJ _ _ _ hj (StepC.alloc B1 [4] W (.cells x.cells 61))) hlen (Kd.R_below ht hal))
   exact ⟨fn, tmps, assign, body, hy, hR.mono (fun e W2 hp => ⟨hp.1, hp.2.1, (hc.later hal).keep hp.2.2⟩)⟩)
  (fun W2 hp => ⟨cell_of_row _ _ 0 _ 4 (0, 0) hp.2.more, by have := hp.2.more; simp [World.frozen?, this]⟩)
 refine h1.mono ?_; rintro e W' ⟨hv, W2, ⟨hj2, hc2⟩, rfl⟩; refine ⟨hv, hJ _ _ _ hj2 ⟨some gm, ?_, fun r e => ?_⟩, hc2.set (by omega)⟩; (· exact ⟨rfl, rfl, rfl, by simp [World.setCell], fun k _ hk => Below.heap_setCell _ _ _ _ (fun e => hk (by rw [e]))⟩)
 ·cases e
  exact ⟨hg1, _, 4, (0, 0), hc2.more, by decide⟩
end
end Go.Proofs.Ytcgpemefmakjiaa.PX
namespace Go.Proofs.Ytcgpemefmakjiaa.PX
open Go.RowKit Go.Shelf Go.Proofs.Ytcgpemefmakjiaa.Iter Go.Proofs.YtcgpemefmakjiaaW.PrintWords Go.Proofs.YtcgpemefmakjiaaW.PrintLast Go.Proofs.YtcgpemefmakjiaaW.PrintMore
set_option linter.unusedVariables false
set_option linter.unusedSimpArgs false
theorem int_row_at {w : World} {A : Option Addr} {n : Nat} {xs : List Int} (h : Kd.C (Kd.int .i64) w A n xs) (k : Nat) (hk : k < n) : ∃ ad, A = some ad ∧ w.cell? (ad.add k) = some (.int .i64 (rd xs k)) := by
 obtain ⟨ad, c, e, _, hK, hc0⟩ := Kd.C_get h (0 : Int) (k : Int) (by omega) (by omega); have hK' : c = [.int .i64 (rd xs k)] := hK; subst hK'; have := hc0 0 _ rfl; exact ⟨ad, e, by simpa [Kd.int, Kd.scalar] using this⟩
set_option maxHeartbeats 400000 in
theorem changes_any (kind m : Int) (A Ab : Option Addr) (na ca nb cb : Nat) (w : World) :
  Calls Try.prog 38 #[.int .i64 kind, .slice A na ca, .slice Ab nb cb, .int .i64 m] w fun e w' =>
   e = .returned (.func (.func 64) #[] #[.pointer (some ⟨w.heap.size + 3, 0, none⟩), .pointer (some ⟨w.heap.size + 1, 0, none⟩), .pointer (some ⟨w.heap.size + 2, 0, none⟩), .pointer (some ⟨w.heap.size, 0, none⟩)]) ∧
   w' = (((w.alloc (.cells #[.int .i64 kind] 3)).alloc (.cells #[.slice A na ca] 64)).alloc (.cells #[.slice Ab nb cb] 64)).alloc (.cells #[.int .i64 m] 3) := by
 go_enter Try.func38, Try.ntmps38
 go_wp2; go_ret; exact ⟨rfl, rfl⟩
def setsN (a b : List (List Int)) (i : Nat) : Nat := (setAll 0 a b i).length
theorem setAt_len (kind kind' : Int) (i i' : Nat) (ra rb : List Int) (k : Nat) : (setAt kind i ra rb k).length = (setAt kind' i' ra rb k).length := by unfold setAt; split <;> rfl
theorem setRow_len (kind kind' : Int) (i i' : Nat) (ra rb : List Int) (n : Nat) : (setRow kind i ra rb n).length = (setRow kind' i' ra rb n).length := by
 induction n with
 | zero => rfl
 | succ n ih => rw [setRow_snoc, setRow_snoc, List.length_append, List.length_append, ih, setAt_len kind kind' i i']
theorem setRow_le (kind : Int) (i : Nat) (ra rb : List Int) (n : Nat) : (setRow kind i ra rb n).length ≤ n := by
 induction n with
 | zero => simp [setRow]
 | succ n ih =>
  rw [setRow_snoc, List.length_append]
  have : (setAt kind i ra rb n).length ≤ 1 := by unfold setAt; split <;> simp
  omega
theorem setAll_len (kind kind' : Int) (a b : List (List Int)) (m : Nat) : (setAll kind a b m).length = (setAll kind' a b m).length := by
 induction m with
 | zero => rfl
 | succ m ih => rw [setAll_snoc, setAll_snoc, List.length_append, List.length_append, ih, setRow_len kind kind' m m]
def bestOf (a b : List (List Int)) : Nat → Int × Nat
 | 0 => ((a.length : Int) + b.length, 0)
 | i + 1 => if (setsN a b (i + 1) : Int) + a.length + b.length - 2 * ((i : Int) + 1) ≤ (bestOf a b i).1 then ((setsN a b (i + 1) : Int) + a.length + b.length - 2 * ((i : Int) + 1), i + 1) else bestOf a b i
def sameM (a b : List (List Int)) : Nat := (bestOf a b (min a.length b.length)).2
theorem bestOf_succ (a b : List (List Int)) (i : Nat) : bestOf a b (i + 1) = if (setsN a b (i + 1) : Int) + a.length + b.length - 2 * ((i : Int) + 1) ≤ (bestOf a b i).1 then ((setsN a b (i + 1) : Int) + a.length + b.length - 2 * ((i : Int) + 1), i + 1) else bestOf a b i := rfl
theorem bestOf_le (a b : List (List Int)) (n : Nat) : (bestOf a b n).2 ≤ n := by
 induction n with
 | zero => exact Nat.le_refl _
 | succ n ih =>
  rw [bestOf_succ]
  split
  (· simp only; omega); (· omega)
theorem bestOf_bd (a b : List (List Int)) (n : Nat) : (bestOf a b n).1 ≤ (a.length : Int) + b.length := by
 induction n with
 | zero => exact Int.le_refl _
 | succ n ih =>
  rw [bestOf_succ]
  split
  (· simp only; omega); (· omega)
theorem bestOf_lo (a b : List (List Int)) (n : Nat) : - 2 * (n : Int) ≤ (bestOf a b n).1 := by
 induction n with
 | zero => simp [bestOf]; omega
 | succ n ih =>
  rw [bestOf_succ]
  split
  (· simp only; omega); (· omega)
theorem setsN_snoc (a b : List (List Int)) (i : Nat) : setsN a b (i + 1) = setsN a b i + (setRow 0 i (rd_L1 a i) (rd_L1 b i) (rd_L1 a i).length).length := by simp [setsN, setAll_snoc]
set_option maxHeartbeats 2000000 in
set_option maxRecDepth 100000 in
theorem same_any (A Ab : Option Addr) (ca cb : Nat) (a b : List (List Int)) (w : World) (ha : Kd.C (Kd.slice 3 (Kd.int .i64)) w A a.length a) (hb : Kd.C (Kd.slice 3 (Kd.int .i64)) w Ab b.length b)
  (hla : a.length ≤ 100000) (hlb : b.length ≤ 100000) (hrow : ∀ i : Nat, i < a.length → i < b.length → (rd_L1 a i).length ≤ 100000 ∧ (rd_L1 a i).length ≤ (rd_L1 b i).length) :
  Calls Try.prog 39 #[.slice A a.length ca, .slice Ab b.length cb] w fun e w' => e = .returned (.int .i64 (sameM a b)) ∧ w = w' := by
 have HRA := Aside0.mk ha; have HRB := Aside0.mk hb; have HROW := Aside0.mk hrow; clear ha hb hrow; obtain ⟨mm, hmm, hm1, hm2⟩ : ∃ mm : Nat, mm = min a.length b.length ∧ mm ≤ a.length ∧ mm ≤ b.length := ⟨_, rfl, Nat.min_le_left _ _, Nat.min_le_right _ _⟩
 have HF : Hid (sameM a b = (bestOf a b mm).2) := by unfold Hid sameM; rw [hmm]
 have hm3 : b.length ≤ mm ∨ a.length ≤ mm := by omega
 clear hmm
 have hsum : ∀ i : Nat, i ≤ mm → setsN a b i ≤ 100000 * i := by
  intro i
  induction i with
  | zero => intro _; simp [setsN, setAll]
  | succ i ih =>
   intro hi; rw [setsN_snoc]; have h1 := setRow_le 0 i (rd_L1 a i) (rd_L1 b i) (rd_L1 a i).length; have h2 := HROW.out i (by omega) (by omega); have h3 := ih (by omega); omega
 have HSUM := Lib.hid hsum; clear hsum
 by_cases hba : b.length < a.length
 all_goals
  skip
  go_enter Try.func39, Try.ntmps39
  go_wp2
  go_loop [22, 5, 6, 7] (fun v22 v5 v6 v7 => ∃ i : Nat, i ≤ mm ∧ v22 = .int .i64 i ∧ v5 = .int .i64 (bestOf a b i).1 ∧ v6 = .int .i64 ((bestOf a b i).2 : Nat) ∧ v7 = .int .i64 (setsN a b i : Nat)) (fun v22 _ _ _ => mm - (intOf v22).toNat)
  case atStart => exact ⟨0, Nat.zero_le _, rfl, rfl, rfl, by simp [setsN, setAll]⟩
  case round =>
   obtain ⟨i, hi, rfl, rfl, rfl, rfl⟩ := hrel
   by_cases hlt : i < mm
   ·obtain ⟨ad, A0, c0, e0, hx0, hl0, hi0⟩ := at_L1 HRA.out i (by omega) (by omega)
    obtain ⟨bd, B0, d0, f0, hy0, hm0, hj0⟩ := at_L1 HRB.out i (by omega) (by omega)
    cases e0
    cases f0
    rw [Int.toNat_natCast] at hx0 hy0; obtain ⟨hr1, hr2⟩ := HROW.out i (by omega) (by omega); have hs0 := HSUM.out i hi; have hrb := hj0.2.1; have hbl := bestOf_lo a b i; have hbb := bestOf_bd a b i; have HI0 := Aside0.mk hi0; have HJ0 := Aside0.mk hj0; clear hl0 hm0 hi0 hj0; have HSN := Lib.hid (setsN_snoc a b i); have HBS := Lib.hid (bestOf_succ a b i)
    have hia : i < a.length := by omega
    have hib : i < b.length := by omega
    go_wp2
    go_loop [30, 7] (fun v30 v7 => ∃ k : Nat, k ≤ (rd_L1 a i).length ∧ v30 = .int .i64 k ∧ v7 = .int .i64 ((setsN a b i + (setRow 0 i (rd_L1 a i) (rd_L1 b i) k).length : Nat) : Int)) (fun v30 _ => (rd_L1 a i).length - (intOf v30).toNat)
    case atStart => exact ⟨0, Nat.zero_le _, rfl, by simp [setRow]⟩
    case round =>
     obtain ⟨k, hk, rfl, rfl⟩ := hrel; have hsr := setRow_le 0 i (rd_L1 a i) (rd_L1 b i) k
     by_cases hkl : k < (rd_L1 a i).length
     ·obtain ⟨ak, rfl, hak⟩ := int_row_at HI0.out k hkl
      obtain ⟨bk, rfl, hbk⟩ := int_row_at HJ0.out k (by omega); have HRS := Lib.hid (setRow_snoc 0 i (rd_L1 a i) (rd_L1 b i) k)
      by_cases hd : rd (rd_L1 b i) k = rd (rd_L1 a i) k
      ·have HE : Hid (setAt 0 i (rd_L1 a i) (rd_L1 b i) k = []) := if_pos hd
       have hd1 : (rd (rd_L1 b i) (k : Int) != rd (rd_L1 a i) (k : Int)) = false := by rw [hd]; simp
       clear hd; go_wp2
       go_round
       case rel => exact ⟨k + 1, by omega, by go_num, by rw [HRS.out, HE.out, List.append_nil]⟩
       case measure => simp [intOf] <;> omega
      ·have HE : Hid (setAt 0 i (rd_L1 a i) (rd_L1 b i) k = [⟨0, i, k, rd (rd_L1 a i) k, rd (rd_L1 b i) k, []⟩]) := if_neg hd
       have hd1 : (rd (rd_L1 b i) (k : Int) != rd (rd_L1 a i) (k : Int)) = true := by simpa using hd
       clear hd
       have hadd : ((setsN a b i + (setRow 0 i (rd_L1 a i) (rd_L1 b i) k).length : Nat) : Int) ≤ 100000000000 := by omega
       go_wp2
       go_round
       case rel => exact ⟨k + 1, by omega, by go_num, by rw [HRS.out, HE.out, List.length_append, List.length_singleton]; go_num⟩
       case measure => simp [intOf] <;> omega
     ·have hkk : k = (rd_L1 a i).length := by omega
      subst hkk; have hs1 := HSUM.out (i + 1) (by omega); rw [← HSN.out]; generalize hsn : setsN a b (i + 1) = sn at HBS hs1 ⊢; have HSNE := Lib.hid hsn; clear hsn HSN hsr
      by_cases hle : (sn : Int) + (a.length : Int) + (b.length : Int) - 2 * ((i : Int) + 1) ≤ (bestOf a b i).1
      ·have HB1 : Hid (bestOf a b (i + 1) = ((sn : Int) + a.length + b.length - 2 * ((i : Int) + 1), i + 1)) := HBS.out.trans (if_pos hle)
       go_wp2
       go_round
       case rel => exact ⟨i + 1, by omega, by go_num, by rw [HB1.out], by rw [HB1.out]; go_num, by rw [HSNE.out]⟩
       case measure => simp [intOf] <;> omega
      ·have HB1 : Hid (bestOf a b (i + 1) = bestOf a b i) := HBS.out.trans (if_neg hle)
       go_wp2
       go_round
       case rel => exact ⟨i + 1, by omega, by go_num, by rw [HB1.out], by rw [HB1.out], by rw [HSNE.out]⟩
       case measure => simp [intOf] <;> omega
   ·have hii : i = mm := by omega
    subst hii
    have hnb : ¬ ((i : Int) < (if b.length < a.length then (b.length : Int) else (a.length : Int))) := by split <;> omega
    clear hnb; have hn1 : b.length ≤ i ∨ a.length ≤ i := hm3; go_wp2; go_ret; exact ⟨by rw [HF.out]; rfl, rfl⟩
end Go.Proofs.Ytcgpemefmakjiaa.PX
namespace Go.Proofs.Ytcgpemefmakjiaa.PX
open Go.RowKit Go.Shelf Go.Proofs.Ytcgpemefmakjiaa.Iter Go.Proofs.YtcgpemefmakjiaaW.PrintWords Go.Proofs.YtcgpemefmakjiaaW.PrintLast Go.Proofs.YtcgpemefmakjiaaW.PrintMore
set_option linter.unusedVariables false
set_option linter.unusedSimpArgs false
attribute [local go_sem] Oper.semAt_some
theorem row_at {w : World} {A : Option Addr} {n : Nat} {xs : List Int} (h : Kd.C (Kd.int .i64) w A n xs) (k : Nat) (hk : k < n) : ∃ ad, A = some ad ∧ w.cell? (ad.add k) = some (.int .i64 (rd xs k)) := by
 obtain ⟨ad, c, e, _, hK, hc0⟩ := Kd.C_get h (0 : Int) (k : Int) (by omega) (by omega); have hK' : c = [.int .i64 (rd xs k)] := hK; subst hK'; have := hc0 0 _ rfl; exact ⟨ad, e, by simpa [Kd.int, Kd.scalar] using this⟩
set_option maxHeartbeats 2000000 in
set_option maxRecDepth 100000 in
theorem changes1_iterates (n : Nat) (w0 W1 : World) (l : Nat) (kind : Int) (m : Nat) (A Ab : Option Addr) (ca cb : Nat) (a b : List (List Int)) (bm ba bb bk : Nat)
  (hm_ : W1.heap[bm]? = some (.cells #[.int .i64 m] 3 (0, 0))) (ha_ : W1.heap[ba]? = some (.cells #[.slice A a.length ca] 64 (0, 0))) (hb_ : W1.heap[bb]? = some (.cells #[.slice Ab b.length cb] 64 (0, 0))) (hk_ : W1.heap[bk]? = some (.cells #[.int .i64 kind] 3 (0, 0)))
  (hbel : Below w0.heap.size w0 W1) (ha : Kd.C (Kd.slice 3 (Kd.int .i64)) w0 A a.length a) (hb : Kd.C (Kd.slice 3 (Kd.int .i64)) w0 Ab b.length b)
  (hma : m ≤ a.length) (hmb : m ≤ b.length) (hrow : ∀ i : Nat, i < m → (rd_L1 a i).length ≤ (rd_L1 b i).length) (hla : ∀ i : Nat, i < a.length → (rd_L1 a i).length < 17592186044416) (hlb : ∀ i : Nat, i < b.length → (rd_L1 b i).length < 17592186044416)
  (hla2 : a.length ≤ 100000) (hlb2 : b.length ≤ 100000) (hra2 : ∀ i : Nat, i < m → (rd_L1 a i).length ≤ 100000) :
  Iterates Fence.wide n Try.prog 64 #[.pointer (some ⟨bm, 0, none⟩), .pointer (some ⟨ba, 0, none⟩), .pointer (some ⟨bb, 0, none⟩), .pointer (some ⟨bk, 0, none⟩)] Yd.enc (Yd.T w0.heap.size) (fun xs _ => xs.map (·.1) = chgs kind a b m) 100000000000 w0.heap.size [30, 61] [4] l W1 := by
 intro J hJ hY h0
 have hsum : ∀ i : Nat, i ≤ m → (setAll kind a b i).length ≤ 100000 * i := by
  intro i
  induction i with
  | zero => intro _; simp [setAll]
  | succ i ih =>
   intro hi; rw [setAll_snoc, List.length_append]; have h1 := setRow_le kind i (rd_L1 a i) (rd_L1 b i) (rd_L1 a i).length; have h2 := hra2 i (by omega); have h3 := ih (by omega); omega
 have HSUM := Aside0.mk hsum; have HRA2 := Aside0.mk hra2; clear hsum hra2; have hla1 := ha.2.1; have hlb1 := hb.2.1; have HRA := Aside0.mk ha; have HRB := Aside0.mk hb; have HJ := Aside0.mk hJ; have HY := Aside0.mk hY; have HROW := Aside0.mk hrow; have HLA := Aside0.mk hla; have HLB := Aside0.mk hlb
 have HC0 := Aside0.mk (show Ctx w0 l kind m A Ab ca cb a b bm ba bb bk (W1.heap.size + 1) W1.heap.size ((W1.alloc (.cells #[.func (.yield l) #[] #[]] 104)).alloc (.cells #[.bool true] 4)) from by
  have hb2 : Below W1.heap.size W1 ((W1.alloc (.cells #[.func (.yield l) #[] #[]] 104)).alloc (.cells #[.bool true] 4)) := below_alloc (below_alloc (Below.refl _ _) _) _
  have q : ∀ i o, W1.heap[i]? = some o → ((W1.alloc (.cells #[.func (.yield l) #[] #[]] 104)).alloc (.cells #[.bool true] 4)).heap[i]? = some o := fun i o hi => (hb2.block i (Array.getElem?_eq_some_iff.1 hi).1).trans hi
  refine ⟨q _ _ hm_, q _ _ ha_, q _ _ hb_, q _ _ hk_, ?_, ?_, hbel.trans (hb2.mono hbel.size)⟩
  ·have := heap_alloc_new (W1.alloc (.cells #[.func (.yield l) #[] #[]] 104)) (.cells #[.bool true] 4)
   rwa [World.size_alloc] at this
  ·exact (Below.heap_alloc _ _ _ (by simp)).trans (heap_alloc_new W1 _))
 have HJ0 := Aside0.mk (show J [] ((W1.alloc (.cells #[.func (.yield l) #[] #[]] 104)).alloc (.cells #[.bool true] 4)) from hJ _ _ _ (hJ _ _ _ h0 (StepC.alloc _ _ _ _)) (StepC.alloc _ _ _ _)); have hsz := hbel.size; have hcm := cell_of_row _ _ 0 _ 3 (0, 0) HC0.out.m_; have hfm := cell_of_row _ _ 0 _ 4 (0, 0) HC0.out.more; clear ha hb hJ hY hrow hla hlb h0 hm_ ha_ hb_ hk_; refine callsIn_of_wp Try.func64 rfl trivial ?_ rfl; simp only [Try.ntmps64, List.size_toArray, List.length_cons, List.length_nil, Nat.reduceAdd, Nat.reduceSub, Array.replicate_succ, Array.replicate_zero, List.push_toArray, List.append_toArray, List.nil_append, List.cons_append]
 gi_wp2
 gi_loopw [15] (fun v wr => ∃ (i : Nat) (pre : List Yd), i ≤ m ∧ v = .int .i64 i ∧ Aside0 (pre.map (·.1) = setAll kind a b i) ∧ Aside0 (J pre wr) ∧ Aside0 (Ctx w0 l kind m A Ab ca cb a b bm ba bb bk (W1.heap.size + 1) W1.heap.size wr)) (fun v _ => m - (intOf v).toNat)
 case atStart => exact ⟨0, [], Nat.zero_le _, rfl, ⟨by simp [setAll]⟩, HJ0, HC0⟩
 case round =>
  obtain ⟨i, pre, hi, rfl, HP, HJi, HC⟩ := hrel; clear HJ0 HC0 hcm hfm
  by_cases hlt : i < m
  ·obtain ⟨wo, rfl⟩ : ∃ wo : World, wo = wr := ⟨_, rfl⟩
   obtain ⟨ad, A0, c0, e0, hx0, hl0, hi0⟩ := at_L1 HRA.out i (by omega) (by omega)
   cases e0
   rw [Int.toNat_natCast] at hx0; have hx1 : wo.cell? (ad.add i) = some (.slice A0 (rd_L1 a i).length c0) := (HC.out.bel.cell (World.block_lt_of_cell? w0 _ hx0)).trans hx0; have hca := cell_of_row _ _ 0 _ 64 (0, 0) HC.out.a_; have hra := hi0.2.1; have HI0 := Aside0.mk hi0; have HX0 := Aside0.mk hx0; clear hx0 hl0 hi0
   gi_wp2
   gi_loopw [23] (fun v wr => ∃ (k : Nat) (pre : List Yd), k ≤ (rd_L1 a i).length ∧ v = .int .i64 k ∧ Aside0 (pre.map (·.1) = setAll kind a b i ++ setRow kind i (rd_L1 a i) (rd_L1 b i) k) ∧ Aside0 (J pre wr) ∧ Aside0 (Ctx w0 l kind m (some ad) Ab ca cb a b bm ba bb bk (W1.heap.size + 1) W1.heap.size wr)) (fun v _ => (rd_L1 a i).length - (intOf v).toNat)
   case atStart => exact ⟨0, pre, Nat.zero_le _, rfl, ⟨by rw [HP.out]; simp [setRow]⟩, HJi, HC⟩
   case round =>
    clear HP HJi HC hca hx1; obtain ⟨k, pre, hk, rfl, HP, HJi, HC⟩ := hrel
    by_cases hkl : k < (rd_L1 a i).length
    ·obtain ⟨bd, B0, d0, f0, hy0, hm0, hj0⟩ := at_L1 HRB.out i (by omega) (by omega)
     cases f0
     rw [Int.toNat_natCast] at hy0; have hrw := HROW.out i hlt; have hrb := hj0.2.1; obtain ⟨ak, rfl, hak⟩ := row_at HI0.out k hkl; obtain ⟨bk', rfl, hbk⟩ := row_at hj0 k (by omega); have hca := cell_of_row _ _ 0 _ 64 (0, 0) HC.out.a_; have hcb := cell_of_row _ _ 0 _ 64 (0, 0) HC.out.b_; have hck := cell_of_row _ _ 0 _ 3 (0, 0) HC.out.k_; have hx1 : wr.cell? (ad.add i) = some (.slice (some ak) (rd_L1 a i).length c0) := (HC.out.bel.cell (World.block_lt_of_cell? w0 _ HX0.out)).trans HX0.out; have hy1 : wr.cell? (bd.add i) = some (.slice (some bk') (rd_L1 b i).length d0) := (HC.out.bel.cell (World.block_lt_of_cell? w0 _ hy0)).trans hy0; have hak1 : wr.cell? (ak.add k) = some (.int .i64 (rd (rd_L1 a i) k)) := (HC.out.bel.cell (World.block_lt_of_cell? w0 _ hak)).trans hak; have hbk1 : wr.cell? (bk'.add k) = some (.int .i64 (rd (rd_L1 b i) k)) := (HC.out.bel.cell (World.block_lt_of_cell? w0 _ hbk)).trans hbk; clear hy0 hm0 hj0 hak hbk
     by_cases hd : rd (rd_L1 b i) k = rd (rd_L1 a i) k
     ·have HE : Hid (setAt kind i (rd_L1 a i) (rd_L1 b i) k = []) := if_pos hd
      have hd1 : (rd (rd_L1 b i) (k : Int) != rd (rd_L1 a i) (k : Int)) = false := by rw [hd]; simp
      clear hd
      gi_wp2
      go_roundw
      case rel => exact ⟨k + 1, pre, by omega, by go_num, ⟨by rw [HP.out, setRow_snoc, HE.out, List.append_nil]⟩, HJi, HC⟩
      case measure => simp [intOf] <;> omega
     ·have HE : Hid (setAt kind i (rd_L1 a i) (rd_L1 b i) k = [⟨kind, i, k, rd (rd_L1 a i) k, rd (rd_L1 b i) k, []⟩]) := if_neg hd
      have hd1 : (rd (rd_L1 b i) (k : Int) != rd (rd_L1 a i) (k : Int)) = true := by simpa using hd
      clear hd
      have HLEN := Aside0.mk (show pre.length < 100000000000 from by
       have e := congrArg List.length HP.out; rw [List.length_map, List.length_append] at e; have h1 := HSUM.out i (by omega); have h2 := setRow_le kind i (rd_L1 a i) (rd_L1 b i) k; have h3 := HRA2.out i hlt
       omega)
      have HS := Aside0.mk (fun n' => say_step (n := n) J HJ.out HY.out (by omega) hsz pre (⟨kind, i, k, rd (rd_L1 a i) k, rd (rd_L1 b i) k, []⟩, .slice none 0 0) wr.drew
       (HJ.out _ _ _ HJi.out ⟨none, grown_of_below (below_drew (Below.refl _ _)) none, fun r e => by cases e⟩) HLEN.out (HC.out.later (below_drew (Below.refl _ _))) (Kd.R_nil _ _ _ _ _) n')
      gi_wp2
      gi_region_with (refine ⟨trivial, (fun h => by cases h), ?_⟩; refine (HS.out _).mono ?_; rintro e W' ⟨⟨v, rfl⟩, hj2, hc2⟩; have HJ2 := Aside0.mk hj2; have HC2 := Aside0.mk hc2; clear hj2 hc2)
      all_goals
       clear HJi HC hca hcb hck hx1 hy1 hak1 hbk1
       gi_wp2
       go_roundw
       case rel => exact ⟨k + 1, pre ++ [_], by omega, by go_num, ⟨by rw [List.map_append, HP.out, setRow_snoc, HE.out, List.append_assoc]; rfl⟩, HJ2, HC2⟩
       case measure => simp [intOf] <;> omega
    ·gi_wp2
     go_roundw
     case rel => exact ⟨i + 1, pre, by omega, by go_num, ⟨by rw [HP.out, setAll_snoc]; congr 2; omega⟩, HJi, HC⟩
     case measure => simp [intOf] <;> omega
  ·have hca := cell_of_row _ _ 0 _ 64 (0, 0) HC.out.a_
   have hcm := cell_of_row _ _ 0 _ 3 (0, 0) HC.out.m_
   have him : i = m := by omega
   subst him; have hq0 : ((a.length : Int) - 1) = ((a.length : Nat) : Int) - 1 := rfl
   gi_wp2
   gi_loopw [11] (fun v wr => ∃ (p : Nat) (pre : List Yd), i ≤ p ∧ p ≤ a.length ∧ v = .int .i64 ((p : Int) - 1) ∧ Aside0 (pre.map (·.1) = setAll kind a b i ++ takeL kind a (a.length - p)) ∧ Aside0 (J pre wr) ∧ Aside0 (Ctx w0 l kind i A Ab ca cb a b bm ba bb bk (W1.heap.size + 1) W1.heap.size wr)) (fun v _ => (intOf v + 1).toNat)
   case atStart => exact ⟨a.length, pre, by omega, Nat.le_refl _, rfl, ⟨by rw [HP.out]; simp [takeL]⟩, HJi, HC⟩
   case round =>
    clear HP HJi HC hca hcm; obtain ⟨p, pre, hp1, hp2, rfl, HP, HJi, HC⟩ := hrel
    by_cases hpm : i < p
    ·obtain ⟨q, rfl⟩ : ∃ q, p = q + 1 := ⟨p - 1, by omega⟩
     have hcast : (((q + 1 : Nat) : Int) - 1) = (q : Int) := by omega
     rw [hcast]; clear hcast
     have HT : Hid (takeL kind a (a.length - q) = takeL kind a (a.length - (q + 1)) ++ [⟨kind, q, -2, 0, 0, rd_L1 a q⟩]) := by
      have e : a.length - q = (a.length - (q + 1)) + 1 := by omega
      have e2 : ((a.length : Int) - 1 - ((a.length - (q + 1) : Nat) : Int)) = q := by omega
      unfold Hid; rw [e, takeL_snoc, e2]
     obtain ⟨ad, A0, c0, e0, hx0, hl0, hi0⟩ := at_L1 HRA.out q (by omega) (by omega)
     cases e0
     rw [Int.toNat_natCast] at hx0; have hx1 : wr.cell? (ad.add q) = some (.slice A0 (rd_L1 a q).length c0) := (HC.out.bel.cell (World.block_lt_of_cell? w0 _ hx0)).trans hx0; have hca := cell_of_row _ _ 0 _ 64 (0, 0) HC.out.a_; have hcm := cell_of_row _ _ 0 _ 3 (0, 0) HC.out.m_; have hck := cell_of_row _ _ 0 _ 3 (0, 0) HC.out.k_; have hra := hi0.2.1; have HCl := Aside0.mk (fun n' => callsIn_wide (n := n').2 (slices_Clone_int_int.calls A0 c0 (rd_L1 a q) (rd_L1 a q) wr.drew (Kd.C_below (Kd.C_below hi0 HC.out.bel) (below_drew (Below.refl _ _))) hl0 (if_pos (HLA.out q (by omega)))))
     have HLEN := Aside0.mk (show pre.length < 100000000000 from by
      have e := congrArg List.length HP.out; rw [List.length_map, List.length_append] at e; have h1 := HSUM.out i (by omega)
      have h2 : (takeL kind a (a.length - (q + 1))).length = a.length - (q + 1) := by simp [takeL]
      omega)
     have HS := Aside0.mk (fun (W : World) (hw : Below wr.heap.size wr W) (v0 : Value) (hR : Kd.R (Kd.int .i64) 3 W wr.heap.size (fun _ => True) v0 (rd_L1 a q)) n' => say_step (n := n) J HJ.out HY.out (by omega) hsz pre (⟨kind, q, -2, 0, 0, rd_L1 a q⟩, v0) W
      (HJ.out _ _ _ HJi.out ⟨none, grown_of_below hw none, fun r e => by cases e⟩) HLEN.out (HC.out.later hw) (Kd.R_lower hR HC.out.bel.size) n')
     have HCK := Aside0.mk (fun (W : World) (hw : Below wr.heap.size wr W) => (hw.cell (p := ⟨bk, 0, none⟩) (World.block_lt_of_cell? wr _ hck)).trans hck); clear hx0 hl0 hi0
     gi_wp2
     gi_region_with (refine ⟨trivial, (fun h => by cases h), ?_⟩; first
      | ((with_reducible refine (HCl.out _).mono ?_); rintro e W2 ⟨v0, rfl, hR, hB2⟩; obtain ⟨Av, cv, rfl⟩ := Kd.R_slice hR; have hB3 : Below wr.heap.size wr W2 := (below_drew (Below.refl _ wr)).trans hB2; have hck2 := HCK.out W2 hB3; have HB3 := Aside0.mk hB3; have HR3 := Aside0.mk hR; clear hB2 hB3 hR)
      | (refine (HS.out _ HB3.out _ HR3.out _).mono ?_; rintro e W' ⟨⟨v, rfl⟩, hj2, hc2⟩; have HJ2 := Aside0.mk hj2; have HC2 := Aside0.mk hc2; clear hj2 hc2))
     all_goals
      clear HJi HC hca hcm hck hx1
      gi_wp2
      go_roundw
      case rel => exact ⟨q, pre ++ [_], by omega, by omega, by go_num, ⟨by rw [List.map_append, HP.out, HT.out, List.append_assoc]; rfl⟩, HJ2, HC2⟩
      case measure => simp [intOf] <;> omega
    ·have hpi : p = i := by omega
     subst hpi; have hcm := cell_of_row _ _ 0 _ 3 (0, 0) HC.out.m_
     have hneg : ¬ ((p : Int) ≤ (p : Int) - 1) := by omega
     gi_wp2
     gi_loopw [12] (fun v wr => ∃ (j : Nat) (pre : List Yd), p + j ≤ b.length ∧ v = .int .i64 ((p : Int) + j) ∧ Aside0 (pre.map (·.1) = setAll kind a b p ++ takeL kind a (a.length - p) ++ addL kind b p j) ∧ Aside0 (J pre wr) ∧ Aside0 (Ctx w0 l kind p A Ab ca cb a b bm ba bb bk (W1.heap.size + 1) W1.heap.size wr)) (fun v _ => b.length - (intOf v).toNat)
     case atStart => exact ⟨0, pre, by omega, by simp, ⟨by rw [HP.out]; simp [addL]⟩, HJi, HC⟩
     case round =>
      clear HP HJi HC hcm; obtain ⟨j, pre, hj, rfl, HP, HJi, HC⟩ := hrel; have hcb := cell_of_row _ _ 0 _ 64 (0, 0) HC.out.b_; have hck := cell_of_row _ _ 0 _ 3 (0, 0) HC.out.k_
      by_cases hjl : p + j < b.length
      ·have hcast : ((p : Int) + (j : Int)) = ((p + j : Nat) : Int) := by omega
       obtain ⟨ad, A0, c0, e0, hx0, hl0, hi0⟩ := at_L1 HRB.out ((p + j : Nat) : Int) (by omega) (by omega)
       cases e0
       rw [Int.toNat_natCast] at hx0
       have HT : Hid (addL kind b p (j + 1) = addL kind b p j ++ [⟨kind, ((p + j : Nat) : Int), -1, 0, 0, rd_L1 b ((p + j : Nat) : Int)⟩]) := by
        unfold Hid; rw [addL_snoc, hcast]
       rw [hcast]; clear hcast; have HLQ := Aside0.mk (HLB.out (p + j) hjl); obtain ⟨q, hq⟩ : ∃ q, q = p + j := ⟨_, rfl⟩; rw [← hq] at hx0 hi0 hl0 HT HLQ hjl ⊢; have HQ := Lib.hid hq; clear hq; have hx1 : wr.cell? (ad.add q) = some (.slice A0 (rd_L1 b q).length c0) := (HC.out.bel.cell (World.block_lt_of_cell? w0 _ hx0)).trans hx0; have hrb := hi0.2.1; have HCl := Aside0.mk (fun n' => callsIn_wide (n := n').2 (slices_Clone_int_int.calls A0 c0 (rd_L1 b q) (rd_L1 b q) wr.drew (Kd.C_below (Kd.C_below hi0 HC.out.bel) (below_drew (Below.refl _ _))) hl0 (if_pos HLQ.out)))
       have HLEN := Aside0.mk (show pre.length < 100000000000 from by
        have e := congrArg List.length HP.out; rw [List.length_map, List.length_append, List.length_append] at e; have h1 := HSUM.out p (by omega)
        have h2 : (takeL kind a (a.length - p)).length = a.length - p := by simp [takeL]
        have h3 : (addL kind b p j).length = j := by simp [addL]
        omega)
       have HS := Aside0.mk (fun (W : World) (hw : Below wr.heap.size wr W) (v0 : Value) (hR : Kd.R (Kd.int .i64) 3 W wr.heap.size (fun _ => True) v0 (rd_L1 b q)) n' => say_step (n := n) J HJ.out HY.out (by omega) hsz pre (⟨kind, q, -1, 0, 0, rd_L1 b q⟩, v0) W
        (HJ.out _ _ _ HJi.out ⟨none, grown_of_below hw none, fun r e => by cases e⟩) HLEN.out (HC.out.later hw) (Kd.R_lower hR HC.out.bel.size) n')
       have HCK := Aside0.mk (fun (W : World) (hw : Below wr.heap.size wr W) => (hw.cell (p := ⟨bk, 0, none⟩) (World.block_lt_of_cell? wr _ hck)).trans hck); clear hx0 hl0 hi0
       gi_wp2
       gi_region_with (refine ⟨trivial, (fun h => by cases h), ?_⟩; first
        | ((with_reducible refine (HCl.out _).mono ?_); rintro e W2 ⟨v0, rfl, hR, hB2⟩; obtain ⟨Av, cv, rfl⟩ := Kd.R_slice hR; have hB3 : Below wr.heap.size wr W2 := (below_drew (Below.refl _ wr)).trans hB2; have hck2 := HCK.out W2 hB3; have HB3 := Aside0.mk hB3; have HR3 := Aside0.mk hR; clear hB2 hB3 hR)
        | (refine (HS.out _ HB3.out _ HR3.out _).mono ?_; rintro e W' ⟨⟨v, rfl⟩, hj2, hc2⟩; have HJ2 := Aside0.mk hj2; have HC2 := Aside0.mk hc2; clear hj2 hc2))
       all_goals
        clear HJi HC hcb hck hx1
        gi_wp2
        go_roundw
        case rel => exact ⟨j + 1, pre ++ [_], by have := HQ.out; omega, by have := HQ.out; rw [show (p : Int) + ((j + 1 : Nat) : Int) = (q : Int) + 1 from by omega], ⟨by rw [List.map_append, HP.out, HT.out, ← List.append_assoc]; rfl⟩, HJ2, HC2⟩
        case measure => simp [intOf] <;> omega
      ·have hjb : p + j = b.length := by omega
       have HF : Hid (pre.map (·.1) = chgs kind a b p) := by
        unfold Hid; rw [HP.out, chgs, show j = b.length - p from by omega]
       have hneg2 : ¬ ((p : Int) + j < (b.length : Int)) := by omega
       clear hjb
       gi_wp2
       go_end0
       exact ⟨⟨_, rfl⟩, pre, HF.out, HJi.out⟩
end Go.Proofs.Ytcgpemefmakjiaa.PX
namespace Go.Proofs.Ytcgpemefmakjiaa.Iter
open Go.RowKit Go.Proofs.YtcgpemefmakjiaaW.PrintWords
def marksOf (Ds : List Nat) : List Deferred := Ds.map fun D => { target := .collected D, args := #[] }
def Marked (B : Nat) (Ds : List Nat) (W : World) : Prop := Ds.Nodup ∧ ∀ D, D ∈ Ds → B ≤ D ∧ W.heap[D]? = some (.deferred (some []))
theorem Marked.nil (B : Nat) (W : World) : Marked B [] W := ⟨List.nodup_nil, fun D h => by cases h⟩
theorem Marked.later {B : Nat} {Ds : List Nat} {W W' : World} (h : Marked B Ds W) (hk : ∀ (i : Nat) (o : Obj), W.heap[i]? = some o → o.isCells = false → W'.heap[i]? = some o) : Marked B Ds W' :=
 ⟨h.1, fun D hD => ⟨(h.2 D hD).1, hk _ _ (h.2 D hD).2 rfl⟩⟩
theorem Marked.below {B : Nat} {Ds : List Nat} {W W' : World} (h : Marked B Ds W) (hk : Below W.heap.size W W') : Marked B Ds W' :=
 h.later fun i _ hi _ => (hk.block i (Array.getElem?_eq_some_iff.1 hi).1).trans hi
theorem Marked.lt {B : Nat} {Ds : List Nat} {W : World} (h : Marked B Ds W) : ∀ D, D ∈ Ds → D < W.heap.size := fun D hD => (Array.getElem?_eq_some_iff.1 (h.2 D hD).2).1
theorem Marked.cons {B : Nat} {Ds : List Nat} {W : World} {D : Nat} (h : Marked B Ds W) (hB : B ≤ D) (hD : W.heap[D]? = some (.deferred (some []))) (hn : D ∉ Ds) : Marked B (D :: Ds) W :=
 ⟨List.nodup_cons.2 ⟨hn, h.1⟩, fun E hE => by
  rcases List.mem_cons.1 hE with e | e
  (· subst e; exact ⟨hB, hD⟩)
  ·exact h.2 E e⟩
theorem leaves_marks {F : Fence} {n : Nat} {P : Program} {fn : Func} {tmps : Array Value} {R : Ending → World → Prop} {B : Nat} (G : World → Prop)
  (hG : ∀ A C, G A → StepI B [] A C → G C) (hR : ∀ A, G A → LeavesIn F n P fn tmps R [] .returning A) : ∀ (Ds : List Nat) (W : World), Marked B Ds W → G W → LeavesInM F n P fn tmps R (marksOf Ds) .returning W
 | [], W, _, h => hR W h
 | D :: Ds, W, hm, h => by
  obtain ⟨hB, hD⟩ := hm.2 D List.mem_cons_self; have hn := List.nodup_cons.1 hm.1; refine ⟨by simp, .inl ⟨D, _, rfl, run_takeDeferred hD, ?_⟩⟩; refine leaves_marks G hG hR Ds _ ⟨hn.2, fun E hE => ?_⟩ (hG _ _ h (StepI.putObj _ hB hD rfl)); obtain ⟨h1, h2⟩ := hm.2 E (List.mem_cons_of_mem _ hE); exact ⟨h1, (World.putObj_heap_other (fun (e : E = D) => hn.1 (e ▸ hE))).trans h2⟩
theorem R_append_in {α : Type} (d : Kd α) {F : Fence} {n : Nat} {P : Program} {ops : Array Oper} {rest : List Oper} {o : Oper} {a : Act} {Q : Exit → Act → World → Prop} {W : World} (base : Nat) (hgd : o.guard = none) (s x : Operand) (t e : TypeId) (z : Value) (bytes : Nat)
  (ho : o.op = .call { callee := .builtin .append, args := #[s, x], argTypes := #[t, t] })
  (ht : P.underlying t = some (.slice e)) (hinfo : (P.info? e).map (fun i => (i.zero, i.size, i.bytes)) = some (some z, d.sz, bytes)) (hz : z.cells.size = d.sz) (hs0 : 0 < d.sz) (hb0 : 0 < bytes)
  (v : Value) (xs : List α) (p : α) (cs : List Value) (ok okp : Nat → Prop) (hs : a.eval s = v) (hx : a.eval x = .slice (some ⟨W.heap.size, 0, none⟩) 1 1) (hp : d.M W base okp p cs) (hokp : ∀ k, okp k → ok k ∧ some k ≠ v.ownBlock) (hfresh : ∀ k, W.heap.size ≤ k → ok k)
  (HO : d.R e W base ok v xs) (hbase : base ≤ W.heap.size) (hl : (xs.length + 1) * bytes ≤ 140737488355328)
  (h : ∀ v1 w1, d.R e w1 base ok v1 (xs ++ [p]) → (W.alloc (.cells cs.toArray e)).grownBy w1 v.ownBlock → (∃ A c, v1 = .slice A (xs.length + 1) c) → wpListIn F n P ops Q rest (a.put o.dst v1) w1) :
  wpListIn F n P ops Q (o :: rest) a (W.alloc (.cells cs.toArray e)) := by
 obtain ⟨i0, hi, hzz⟩ := Option.map_eq_some_iff.1 hinfo; simp only [Prod.mk.injEq] at hzz; obtain ⟨hz0, hz1, hz2⟩ := hzz; obtain ⟨h0, inner, hown, hr⟩ := HO; have hal : Below W.heap.size W (W.alloc (.cells cs.toArray e)) := (Below.refl _ W).alloc (Nat.le_refl _) _; have hown' : (W.alloc (.cells cs.toArray e)).ownsRow base e d.sz v xs.length inner := hown.alloc _; have hcl : cs.length = d.sz := d.K_len (d.K_of_M hp); have hlen : xs.length + 1 ≤ 140737488355328 := Nat.le_trans (Nat.le_mul_of_pos_right _ hb0) hl
 obtain ⟨v', w', hrun, r1, r2, r3, r4⟩ := run_append_own_at (P := P) (W.alloc (.cells cs.toArray e)) base t o.type e i0 z d.sz bytes ht hi hz0 hz1 hz2 hz hs0 v xs.length inner hown' ⟨W.heap.size, 0, none⟩ 1 1 cs (by rw [hcl]; simp)
  (fun j u hu => by
   rw [show (⟨W.heap.size, 0, none⟩ : Addr).add j = ⟨W.heap.size, j, none⟩ from by unfold Addr.add; split <;> simp_all]; rw [cell_of_row _ _ j _ e (0, 0) (heap_alloc_new W _)]
   simpa using hu) (d.K_one (d.K_of_M hp)) (by simp only [maxLen]; omega) hl (by simp; omega)
 refine wpListIn_plain hgd fun K hK' => ?_
 have hR1 : d.R e w' base ok v' (xs ++ [p]) := by
  have hp' : d.M (W.alloc (.cells cs.toArray e)) base okp p cs := Kd.M_below hp hal; have hr' : Reps (d.M (W.alloc (.cells cs.toArray e)) base (fun k => ok k ∧ some k ≠ v.ownBlock)) d.sz xs inner := hr.imp_ (fun _ _ hq => Kd.M_below hq hal); refine Kd.R_appended h0 hr' hp' hokp (fun k hk => hfresh k (by simp at hk; omega)) r1 r2 ?_
  rcases r4 with r4 | r4
  (· exact .inl r4); (· exact .inr ⟨_, r4, Nat.le_refl _⟩)
 unfold Oper.wpIn; refine ⟨?_, ?_⟩
 ·simp [Oper.about, ho, resolve, Target.leads, Sem.run_pure]
 ·rw [Oper.semAt_plain F _ _ (by rw [ho]; intro c hc'; cases hc')]
  simp [execOp, ho, resolve, invoke, builtin, hs, hx, hrun, Result.andThen]
  obtain ⟨A1, c1, e1⟩ := Kd.R_slice hR1; exact hK' _ _ (h v' w' hR1 r2 ⟨A1, c1, by rw [e1]; simp⟩)
end Go.Proofs.Ytcgpemefmakjiaa.Iter
namespace Go.Proofs.Ytcgpemefmakjiaa.PX
open Go.RowKit Go.Shelf Go.Proofs.Ytcgpemefmakjiaa.Iter Go.Proofs.YtcgpemefmakjiaaW.PrintWords Go.Proofs.YtcgpemefmakjiaaW.PrintLast Go.Proofs.YtcgpemefmakjiaaW.PrintMore
set_option linter.unusedVariables false
set_option linter.unusedSimpArgs false
attribute [local go_sem] Oper.semAt_some
def okK (l0 l1 : List (List (List Int))) (k : Nat) : Bool := !(decide (0 < (rd_L2 l0 k).length) && decide (0 < (rd_L2 l1 k).length) && (rd_L1 (rd_L2 l0 k) 0).length != (rd_L1 (rd_L2 l1 k) 0).length)
def diffL (l0 l1 : List (List (List Int))) (n : Nat) : List S61 := (List.range n).flatMap fun (k : Nat) => chgs k (rd_L2 l0 k) (rd_L2 l1 k) (sameM (rd_L2 l0 k) (rd_L2 l1 k))
theorem diffL_snoc (l0 l1 : List (List (List Int))) (n : Nat) : diffL l0 l1 (n + 1) = diffL l0 l1 n ++ chgs n (rd_L2 l0 n) (rd_L2 l1 n) (sameM (rd_L2 l0 n) (rd_L2 l1 n)) := by simp [diffL, List.range_succ, List.flatMap_append]
def diffR (l0 l1 : List (List (List Int))) : List S61 × Int :=
 if shapedB l0 && shapedB l1 && decide (l0.length = l1.length) && (List.range l0.length).all (okK l0 l1) then (diffL l0 l1 l0.length, 0) else ([], 2)
def diff_Diff.f (l0 l1 : List (List (List Int))) : Option (List S61 × Int) := if sumLen l0 < 4611686018427387904 ∧ sumLen l1 < 4611686018427387904 then some (diffR l0 l1) else none
def DiffPost (w : World) (r : List S61 × Int) (e : Ending) (w' : World) : Prop := ∃ v0_ : Value, e = .returned (.tuple #[v0_, .int .i64 r.2]) ∧ Kd.N k61 61 w' w.heap.size (fun k_ => w.heap.size ≤ k_) v0_ r.1 ∧ Below w.heap.size w w'
theorem R_stepI {α : Type} {d : Kd α} {e : Nat} {W W' : World} {base B : Nat} {tI : List Nat} {ok : Nat → Prop} {v : Value} {xs : List α} (h : d.R e W base ok v xs) (hs : StepI B tI W W') (ht : ∀ q, q ∈ e :: d.E → q ∉ tI) : d.R e W' base ok v xs :=
 Kd.R_mono (Kd.R_move (Kd.R_bound h) (fun k hk => by
  obtain ⟨_, _, _, q, hq, cells, hc⟩ := hk; rw [hc]
  exact hs.other hc (ht q hq))) (fun _ hk => hk.1)
theorem _root_.Go.Proofs.Ytcgpemefmakjiaa.Iter.Marked.stepI {B B' : Nat} {Ds tI : List Nat} {W W' : World} (h : Marked B Ds W) (hs : StepI B' tI W W') (hlt : ∀ D, D ∈ Ds → D < B') : Marked B Ds W' :=
 ⟨h.1, fun D hD => ⟨(h.2 D hD).1, by
  obtain ⟨row, hg, hr⟩ := hs; refine (hg.block D (Array.getElem?_eq_some_iff.1 (h.2 D hD).2).1 (fun e => ?_)).trans (h.2 D hD).2; have := (hr D e.symm).1; have := hlt D hD
  omega⟩⟩
theorem M_ne {W : World} {base : Nat} {v : Value} {xs : List S61} {x : S61} {cs : List Value} (hp : k61.M W base (fun _ => True) x cs) (hr : Kd.R k61 61 W base (fun _ => True) v xs) : k61.M W base (fun k => True ∧ some k ≠ v.ownBlock) x cs :=
 k61.M_mono (fun k hk => ⟨trivial, fun e => by
  obtain ⟨_, _, _, q, hq, cells, hc⟩ := hk; obtain ⟨cells', hc'⟩ := Kd.R_typed hr k e.symm; rw [hc] at hc'
  injection hc' with hc'
  injection hc' with _ hc'
  subst hc'
  exact absurd hq (by decide)⟩) (k61.M_bound hp)
theorem diff_leave (w : World) (r : List S61 × Int) (tmps : Array Value) (Ds : List Nat) (W : World) (v0 : Value) (h4 : tmps.getD 4 undef = v0) (h5 : tmps.getD 5 undef = .int .i64 r.2) (hm : Marked w.heap.size Ds W)
  (hR : Kd.R k61 61 W w.heap.size (fun _ => True) v0 r.1) (hB : Below w.heap.size w W) : bodyPostM Fence.wide 5 Try.prog Try.f14 (DiffPost w r) .ret { tmps := tmps, defers := marksOf Ds } W := by
 refine leaves_marks (B := w.heap.size) (fun A => Kd.R k61 61 A w.heap.size (fun _ => True) v0 r.1 ∧ Below w.heap.size w A) (fun A C h hs => ⟨R_stepI h.1 hs (fun _ _ => by simp), hs.below h.2 (Nat.le_refl _) (Nat.le_refl _)⟩) (fun A h => ?_) Ds W hm ⟨hR, hB⟩; refine ⟨_, results_tmp2 rfl _ _ _, v0, ?_, Kd.N_mono (Kd.R_N (Kd.R_bound h.1)) (fun k hk => hk.2.1), h.2⟩; rw [h4, h5]
theorem wp_mid {P : Program} {c : Code} {Q : Exit → Act → World → Prop} {a : Act} {w : World} (R : Act → World → Prop) (h1 : c.wp P (fun e a' w' => match e with | .normal => R a' w' | _ => False) a w) (h2 : ∀ a' w', R a' w' → Q .normal a' w') : c.wp P Q a w :=
 wp_mono h1 fun e a' w' h => by
  cases e with
  | normal => exact h2 _ _ h
  | ret => exact h.elim
  | exit id => exact h.elim
  | goto t => exact h.elim
  | panic ch => exact h.elim
  | outgrown => exact h.elim
theorem anyBad_false {n0 : Nat} {l : List (List Int)} (h : anyBad n0 l = false) (i : Nat) (hi : i < l.length) : (rd_L1 l i).length = n0 ∧ 1 ≤ (rd_L1 l i).length ∧ (rd_L1 l i).length ≤ 10 := by
 unfold anyBad at h; rw [List.any_eq_false] at h; have h1 := h l[i] (List.getElem_mem hi)
 have h2 : rd_L1 l (i : Int) = l[i] := by simp [rd_L1, List.getD_eq_getElem?_getD, hi]
 rw [h2]; have h3 : ¬ badLen l[i].length n0 = true := h1; unfold badLen at h3; simp only [Bool.or_eq_true, bne_iff_ne, decide_eq_true_eq, not_or, Decidable.not_not] at h3; omega
theorem sumLen_ge (l : List (List (List Int))) (k : Nat) (hk : k < l.length) : (rd_L2 l k).length ≤ sumLen l := by
 have h2 : rd_L2 l (k : Int) = l[k] := by simp [rd_L2, List.getD_eq_getElem?_getD, hk]
 rw [h2]; have h3 := sumLen_snoc l k hk; have h4 := sumLen_take l (k + 1); omega
theorem shaped_row {l : List (List (List Int))} (h : shapedB l = true) (k : Nat) (hk : k < l.length) : (rd_L2 l k).length ≤ 512 ∧ ∀ i : Nat, i < (rd_L2 l k).length → (rd_L1 (rd_L2 l k) i).length = (rd_L1 (rd_L2 l k) 0).length ∧ 1 ≤ (rd_L1 (rd_L2 l k) i).length ∧ (rd_L1 (rd_L2 l k) i).length ≤ 10 := by
 unfold shapedB at h; simp only [Bool.and_eq_true, decide_eq_true_eq] at h; obtain ⟨⟨h1, h2⟩, h3⟩ := h; refine ⟨Nat.le_trans (sumLen_ge l k hk) h3, fun i hi => ?_⟩; rw [List.all_eq_true] at h1; have h4 := h1 _ (List.getElem_mem hk)
 have h5 : rd_L2 l (k : Int) = l[k] := by simp [rd_L2, List.getD_eq_getElem?_getD, hk]
 rw [h5] at hi ⊢; exact anyBad_false (by simpa using h4) i hi
theorem shaped_six {l : List (List (List Int))} (h : shapedB l = true) : l.length ≤ 6 := by
 unfold shapedB at h; simp only [Bool.and_eq_true, decide_eq_true_eq] at h; exact h.1.2
theorem setAll_le (kind : Int) (a b : List (List Int)) (m : Nat) (h : ∀ i : Nat, i < m → (rd_L1 a i).length ≤ 100000) : (setAll kind a b m).length ≤ 100000 * m := by
 induction m with
 | zero => simp [setAll]
 | succ m ih =>
  rw [setAll_snoc, List.length_append]; have h1 := setRow_le kind m (rd_L1 a m) (rd_L1 b m) (rd_L1 a m).length; have h2 := h m (by omega); have h3 := ih (fun i hi => h i (by omega)); omega
theorem diffL_le {l0 l1 : List (List (List Int))} (h0 : shapedB l0 = true) (h1 : shapedB l1 = true) : ∀ k : Nat, k ≤ l0.length → k ≤ l1.length → (diffL l0 l1 k).length ≤ 100000000000 * k
 | 0, _, _ => by simp [diffL]
 | k + 1, hk, hk' => by
  rw [diffL_snoc, List.length_append]; have h2 := diffL_le h0 h1 k (by omega) (by omega); obtain ⟨h3, h4⟩ := shaped_row h0 k (by omega); obtain ⟨h5, h6⟩ := shaped_row h1 k (by omega); have h7 : sameM (rd_L2 l0 k) (rd_L2 l1 k) ≤ (rd_L2 l0 k).length := Nat.le_trans (bestOf_le _ _ _) (Nat.min_le_left _ _); have h8 := setAll_le k (rd_L2 l0 k) (rd_L2 l1 k) (sameM (rd_L2 l0 k) (rd_L2 l1 k)) (fun i hi => by have := (h4 i (by omega)).2.2; omega)
  have h9 : (chgs k (rd_L2 l0 k) (rd_L2 l1 k) (sameM (rd_L2 l0 k) (rd_L2 l1 k))).length ≤ 100000000000 := by
   unfold chgs; rw [List.length_append, List.length_append]
   have e1 : (takeL k (rd_L2 l0 k) ((rd_L2 l0 k).length - sameM (rd_L2 l0 k) (rd_L2 l1 k))).length = (rd_L2 l0 k).length - sameM (rd_L2 l0 k) (rd_L2 l1 k) := by simp [takeL]
   have e2 : (addL k (rd_L2 l1 k) (sameM (rd_L2 l0 k) (rd_L2 l1 k)) ((rd_L2 l1 k).length - sameM (rd_L2 l0 k) (rd_L2 l1 k))).length = (rd_L2 l1 k).length - sameM (rd_L2 l0 k) (rd_L2 l1 k) := by simp [addL]
   omega
  omega
structure DiffG (w : World) (bo : Nat) (l0 l1 : List (List (List Int))) (k : Nat) (Ds : List Nat) (v : Value) (W : World) : Prop where
 le : k ≤ l0.length
 marks : Marked w.heap.size Ds W
 box : W.heap[bo]? = some (.cells #[v] 30 (0, 0))
 row : Kd.R k61 61 W w.heap.size (fun _ => True) v (diffL l0 l1 k)
 bel : Below w.heap.size w W
 good : ∀ j, j < k → okK l0 l1 j = true
def DiffJ (w : World) (bo : Nat) (l0 l1 : List (List (List Int))) (k : Nat) (Ds : List Nat) (s : List Yd) (W : World) : Prop :=
 ∃ v', Marked w.heap.size Ds W ∧ W.heap[bo]? = some (.cells #[v'] 30 (0, 0)) ∧ Kd.R k61 61 W w.heap.size (fun _ => True) v' (diffL l0 l1 k ++ s.map (·.1)) ∧ Below w.heap.size w W
def DiffI (w : World) (bo : Nat) (A0 : Option Addr) (c0 : Nat) (l0 : List (List (List Int))) (A1 : Option Addr) (c1 : Nat) (l1 : List (List (List Int))) (a : Act) (W : World) : Prop :=
 ∃ (k : Nat) (Ds : List Nat) (v : Value) (u7 u8 u27 u28 u29 u30 u31 u32 u33 u34 u35 u36 u37 u38 u39 u40 u41 u42 u43 u44 u45 u46 u47 u48 u49 u50 u51 u52 u53 u54 u55 u56 u57 u58 u59 u60 u61 u62 u63 u64 u65 u66 u67 u68 u69 u70 u71 u72 u73 u74 u75 u76 u77 u78 u79 u80 u81 u82 u83 u84 : Value), a = { tmps := #[.slice A0 l0.length c0, .slice A1 l1.length c1, undef, undef, .slice none 0 0, .int .i64 0, .pointer (some ⟨bo, 0, none⟩), u7, u8, .slice A0 l0.length c0, .bool true, .bool false, .bool false, .slice A1 l1.length c1, .bool true, .bool false, .bool false, .bool false, .slice A0 l0.length c0, .int .i64 l0.length, .slice A1 l1.length c1, .int .i64 l1.length, .bool false, .bool false, .slice A0 l0.length c0, .int .i64 l0.length, .int .i64 k, u27, u28, u29, u30, u31, u32, u33, u34, u35, u36, u37, u38, u39, u40, u41, u42, u43, u44, u45, u46, u47, u48, u49, u50, u51, u52, u53, u54, u55, u56, u57, u58, u59, u60, u61, u62, u63, u64, u65, u66, u67, u68, u69, u70, u71, u72, u73, u74, u75, u76, u77, u78, u79, u80, u81, u82, u83, u84, undef], defers := marksOf Ds } ∧ DiffG w bo l0 l1 k Ds v W
set_option maxHeartbeats 1000000 in
set_option maxRecDepth 100000 in
theorem diff_in (A0 : Option Addr) (c0 : Nat) (l0 : List (List (List Int))) (A1 : Option Addr) (c1 : Nat) (l1 : List (List (List Int))) (w : World) (hr0 : Kd.C (Kd.slice 22 (Kd.slice 3 (Kd.int .i64))) w A0 l0.length l0) (hc0 : l0.length ≤ c0)
  (hr1 : Kd.C (Kd.slice 22 (Kd.slice 3 (Kd.int .i64))) w A1 l1.length l1) (hc1 : l1.length ≤ c1) (hs0 : sumLen l0 < 4611686018427387904) (hs1 : sumLen l1 < 4611686018427387904) :
  Calls Try.prog 14 #[.slice A0 l0.length c0, .slice A1 l1.length c1] w (DiffPost w (diffR l0 l1)) := by
 refine (callsIn_wide (n := 5)).1 (callsIn_of_wp_marks Try.func14 rfl trivial ?_ rfl); refine wpIn_wide.2 ?_; simp only [Try.ntmps14, List.size_toArray, List.length_cons, List.length_nil, Nat.reduceAdd, Nat.reduceSub, Array.replicate_succ, Array.replicate_zero, List.push_toArray, List.append_toArray, List.nil_append, List.cons_append]; have hlen0 := hr0.2.1; have hlen1 := hr1.2.1; have H0 := Aside0.mk (diff_shaped.calls A0 c0 l0 (shapedB l0) w hr0 hc0 (if_pos hs0)); have H1 := Aside0.mk (fun (W : World) (hb : Below w.heap.size w W) => diff_shaped.calls A1 c1 l1 (shapedB l1) W (Kd.C_below hr1 hb) hc1 (if_pos hs1)); have HR0 := Aside0.mk hr0; have HR1 := Aside0.mk hr1; have HC0 := Aside0.mk hc0; have HC1 := Aside0.mk hc1; clear hr0 hr1 hc0 hc1 hs0 hs1; generalize hb0 : shapedB l0 = b0 at H0; generalize hb1 : shapedB l1 = b1 at H1; have HB0 := Lib.hid hb0; have HB1 := Lib.hid hb1; clear hb0 hb1
 cases b0 with
 | false =>
  go_wp2_with (go_at_call 37; refine H0.out.mono ?_; rintro e w1 ⟨rfl, hb⟩; have HB := Aside0.mk hb; clear hb)
  exact diff_leave w _ _ [] w1 _ rfl (by unfold diffR; rw [HB0.out]; rfl) (Marked.nil _ _) (by unfold diffR; rw [HB0.out]; exact Kd.R_nil _ _ _ _ _) HB.out
 | true =>
  cases b1 with
  | false =>
   go_wp2_with fail
   refine H0.out.mono ?_; rintro e w1 ⟨rfl, hb⟩; have HB := Aside0.mk hb; clear hb
   go_wp2_with fail
   refine (H1.out _ HB.out).mono ?_; rintro e w2 ⟨rfl, hb⟩; have HB2 := Aside0.mk (HB.out.trans (hb.mono HB.out.size)); clear hb; go_wp2; exact diff_leave w _ _ [] w2 _ rfl (by unfold diffR; rw [HB0.out, HB1.out]; rfl) (Marked.nil _ _) (by unfold diffR; rw [HB0.out, HB1.out]; exact Kd.R_nil _ _ _ _ _) HB2.out
  | true =>
   by_cases hll : l0.length = l1.length
   ·have hne : ((l0.length : Int) != (l1.length : Int)) = false := by rw [hll]; simp
    have HLL := Lib.hid hll; clear hll
    go_wp2_with fail
    refine H0.out.mono ?_; rintro e w1 ⟨rfl, hb⟩; have HB := Aside0.mk hb; clear hb
    go_wp2_with fail
    refine (H1.out _ HB.out).mono ?_; rintro e w2 ⟨rfl, hb⟩; have HB2 := Aside0.mk (HB.out.trans (hb.mono HB.out.size)); clear hb; go_wp2; have hbo := HB2.out.size; refine wp_loop (DiffI w w2.heap.size A0 c0 l0 A1 c1 l1) (fun a _ => l0.length - (intOf (a.tmps.getD 26 undef)).toNat) ?_ (fun a' W hI => ?_); (· exact ⟨0, [], .slice none 0 0, _, _, _, _, _, _, _, _, _, _, _, _, _, _, _, _, _, _, _, _, _, _, _, _, _, _, _, _, _, _, _, _, _, _, _, _, _, _, _, _, _, _, _, _, _, _, _, _, _, _, _, _, _, _, _, _, _, _, _, _, rfl, ⟨Nat.zero_le _, Marked.nil _ _, heap_alloc_new w2 _, Kd.R_nil _ _ _ _ _, below_alloc HB2.out _, fun j hj => by omega⟩⟩)
    ·obtain ⟨k, Ds, v, u7, u8, u27, u28, u29, u30, u31, u32, u33, u34, u35, u36, u37, u38, u39, u40, u41, u42, u43, u44, u45, u46, u47, u48, u49, u50, u51, u52, u53, u54, u55, u56, u57, u58, u59, u60, u61, u62, u63, u64, u65, u66, u67, u68, u69, u70, u71, u72, u73, u74, u75, u76, u77, u78, u79, u80, u81, u82, u83, u84, rfl, hG⟩ := hI
     have HG := Aside0.mk hG; have hk := hG.le; clear hG
     by_cases hlt : k < l0.length
     ·have hk1 : k < l1.length := by have := HLL.out; omega
      obtain ⟨ad, Aa, ca, e0, hx0, hl0, hi0⟩ := at_L2 HR0.out k (by omega) (by omega); obtain ⟨bd, Ab, cb, f0, hy0, hm0, hj0⟩ := at_L2 HR1.out k (by omega) (by omega)
      cases e0
      cases f0
      rw [Int.toNat_natCast] at hx0 hy0; have hx1 : W.cell? (ad.add k) = some (.slice Aa (rd_L2 l0 k).length ca) := (HG.out.bel.cell (World.block_lt_of_cell? w _ hx0)).trans hx0; have hy1 : W.cell? (bd.add k) = some (.slice Ab (rd_L2 l1 k).length cb) := (HG.out.bel.cell (World.block_lt_of_cell? w _ hy0)).trans hy0; have HS0 := Aside0.mk (shaped_row HB0.out k hlt); have HS1 := Aside0.mk (shaped_row HB1.out k hk1); have hla := HS0.out.1; have hlb := HS1.out.1; have HI0 := Aside0.mk hi0; have HJ0 := Aside0.mk hj0; have HX0 := Aside0.mk hx0; have HY0 := Aside0.mk hy0; clear hx0 hy0 hl0 hm0 hi0 hj0; have HOK : Hid (okK l0 l1 k = !(decide (0 < (rd_L2 l0 k).length) && decide (0 < (rd_L2 l1 k).length) && (rd_L1 (rd_L2 l0 k) 0).length != (rd_L1 (rd_L2 l1 k) 0).length)) := rfl
      go_upto_region 7 with (fail)
      refine wp_mid (fun a' W' => ∃ (nq : Nat) (q29 q30 q31 q32 q33 q34 q35 q36 q37 q38 q39 q40 q41 q42 q43 q44 q45 q46 q47 q48 q49 q50 q51 q52 q53 q54 q55 q56 q57 q58 : Value), a' = { tmps := #[.slice (some ad) l0.length c0, .slice (some bd) l1.length c1, undef, undef, .slice none 0 0, .int .i64 0, .pointer (some ⟨w2.heap.size, 0, none⟩), .int .i64 k, u8, .slice (some ad) l0.length c0, .bool true, .bool false, .bool false, .slice (some bd) l1.length c1, .bool true, .bool false, .bool false, .bool false, .slice (some ad) l0.length c0, .int .i64 l0.length, .slice (some bd) l1.length c1, .int .i64 l1.length, .bool false, .bool false, .slice (some ad) l0.length c0, .int .i64 l0.length, .int .i64 k, .bool true, .int .i64 k, q29, q30, q31, q32, q33, q34, q35, q36, q37, q38, q39, q40, q41, q42, q43, q44, q45, q46, q47, q48, q49, q50, q51, q52, q53, q54, q55, q56, q57, q58, .bool (!okK l0 l1 k), u60, u61, u62, u63, u64, u65, u66, u67, u68, u69, u70, u71, u72, u73, u74, u75, u76, u77, u78, u79, u80, u81, u82, u83, u84, undef], defers := marksOf Ds } ∧ W' = W.drewN nq) ?_ ?_
      ·by_cases ha : 0 < (rd_L2 l0 k).length
       ·have ha1 : (0 : Int) < ((rd_L2 l0 k).length : Int) := by omega
        obtain ⟨aa, Ar, cr, ea, hxa, hla', hia⟩ := at_L1 HI0.out 0 (by omega) (by omega)
        by_cases hb : 0 < (rd_L2 l1 k).length
        ·have hb1 : (0 : Int) < ((rd_L2 l1 k).length : Int) := by omega
         obtain ⟨ab, Br, dr, eb, hxb, hlb', hib⟩ := at_L1 HJ0.out 0 (by omega) (by omega)
         cases ea
         cases eb
         have hxa1 : W.cell? aa = some (.slice Ar (rd_L1 (rd_L2 l0 k) 0).length cr) := by
          have : w.cell? aa = some (.slice Ar (rd_L1 (rd_L2 l0 k) 0).length cr) := by simpa [Addr.add] using hxa
          exact (HG.out.bel.cell (World.block_lt_of_cell? w _ this)).trans this
         have hxb1 : W.cell? ab = some (.slice Br (rd_L1 (rd_L2 l1 k) 0).length dr) := by
          have : w.cell? ab = some (.slice Br (rd_L1 (rd_L2 l1 k) 0).length dr) := by simpa [Addr.add] using hxb
          exact (HG.out.bel.cell (World.block_lt_of_cell? w _ this)).trans this
         clear hxa hxb hla' hlb' hia hib
         by_cases hw : (rd_L1 (rd_L2 l0 k) 0).length = (rd_L1 (rd_L2 l1 k) 0).length
         ·have hw1 : (((rd_L1 (rd_L2 l0 k) 0).length : Int) != ((rd_L1 (rd_L2 l1 k) 0).length : Int)) = false := by rw [hw]; simp
          have HV : Hid ((!okK l0 l1 k) = false) := by unfold Hid; rw [HOK.out]; simp [hw]
          clear hw
          go_quiet (fail)
          exact ⟨nq, _, _, _, _, _, _, _, _, _, _, _, _, _, _, _, _, _, _, _, _, _, _, _, _, _, _, _, _, _, _, by rw [HV.out], rfl⟩
         ·have hw1 : (((rd_L1 (rd_L2 l0 k) 0).length : Int) != ((rd_L1 (rd_L2 l1 k) 0).length : Int)) = true := by rw [bne_iff_ne]; omega
          have HV : Hid ((!okK l0 l1 k) = true) := by unfold Hid; rw [HOK.out]; simp [ha, hb, hw]
          clear hw
          go_quiet (fail)
          exact ⟨nq, _, _, _, _, _, _, _, _, _, _, _, _, _, _, _, _, _, _, _, _, _, _, _, _, _, _, _, _, _, _, by rw [HV.out], rfl⟩
        ·have hb1 : decide ((0 : Int) < ((rd_L2 l1 k).length : Int)) = false := decide_eq_false (by omega)
         have HV : Hid ((!okK l0 l1 k) = false) := by unfold Hid; rw [HOK.out]; simp [hb]
         clear hxa hla' hia
         go_quiet (fail)
         exact ⟨nq, _, _, _, _, _, _, _, _, _, _, _, _, _, _, _, _, _, _, _, _, _, _, _, _, _, _, _, _, _, _, by rw [HV.out], rfl⟩
       ·have ha1 : decide ((0 : Int) < ((rd_L2 l0 k).length : Int)) = false := decide_eq_false (by omega)
        have HV : Hid ((!okK l0 l1 k) = false) := by unfold Hid; rw [HOK.out]; simp [ha]
        go_quiet (fail)
        exact ⟨nq, _, _, _, _, _, _, _, _, _, _, _, _, _, _, _, _, _, _, _, _, _, _, _, _, _, _, _, _, _, _, by rw [HV.out], rfl⟩
      ·rintro a' W' ⟨nq, q29, q30, q31, q32, q33, q34, q35, q36, q37, q38, q39, q40, q41, q42, q43, q44, q45, q46, q47, q48, q49, q50, q51, q52, q53, q54, q55, q56, q57, q58, rfl, rfl⟩
       by_cases hok : okK l0 l1 k = true
       ·have hok1 : (!okK l0 l1 k) = false := by rw [hok]; rfl
        have HOK1 := Lib.hid hok; rw [hok1]; clear hok hok1
        have HROW := Aside0.mk (show ∀ i : Nat, i < (rd_L2 l0 k).length → i < (rd_L2 l1 k).length → (rd_L1 (rd_L2 l0 k) i).length ≤ 100000 ∧ (rd_L1 (rd_L2 l0 k) i).length ≤ (rd_L1 (rd_L2 l1 k) i).length from by
         intro i h1 h2; have h3 := HOK1.out; rw [HOK.out] at h3
         have ha : 0 < (rd_L2 l0 k).length := by omega
         have hb : 0 < (rd_L2 l1 k).length := by omega
         simp [ha, hb] at h3
         have h4 := HS0.out.2 i h1; have h5 := HS1.out.2 i h2
         omega)
        have HSA := Aside0.mk (fun (W' : World) (hb : Below w.heap.size w W') => (same_any Aa Ab ca cb (rd_L2 l0 k) (rd_L2 l1 k) W' (Kd.C_below HI0.out hb) (Kd.C_below HJ0.out hb) (by omega) (by omega) HROW.out).mono (R' := fun e w' => e = .returned (.int .i64 (sameM (rd_L2 l0 k) (rd_L2 l1 k))) ∧ w' = W') (fun e w' h => ⟨h.1, h.2.symm⟩)); have hsm1 : sameM (rd_L2 l0 k) (rd_L2 l1 k) ≤ (rd_L2 l0 k).length := Nat.le_trans (bestOf_le _ _ _) (Nat.min_le_left _ _); have hsm2 : sameM (rd_L2 l0 k) (rd_L2 l1 k) ≤ (rd_L2 l1 k).length := Nat.le_trans (bestOf_le _ _ _) (Nat.min_le_right _ _); have HBn := Aside0.mk (pw_below_drewN HG.out.bel nq); go_wp2; obtain ⟨W9, hW9⟩ : ∃ W9, W9 = W.drewN nq := ⟨_, rfl⟩
        have hx9 : W9.cell? (ad.add k) = some (.slice Aa (rd_L2 l0 k).length ca) := by rw [hW9]; exact hx1
        have hy9 : W9.cell? (bd.add k) = some (.slice Ab (rd_L2 l1 k).length cb) := by rw [hW9]; exact hy1
        have HG9 : Aside0 (DiffG w w2.heap.size l0 l1 k Ds v W9) := by
         rw [hW9]; exact ⟨⟨HG.out.le, HG.out.marks.below (pw_below_drewN (Below.refl _ _) _), HG.out.box, Kd.R_drewN HG.out.row _, pw_below_drewN HG.out.bel _, HG.out.good⟩⟩
        rw [← hW9] at HBn ⊢; clear hW9 hx1 hy1 HG; refine wp_region_still_tail 18 (by kernel_rfl) (by kernel_rfl) ?_; simp only [List.take_succ_cons, List.take_zero, List.drop_succ_cons, List.drop_zero]
        repeat still_step
        still_call (HSA.out _ (below_drew HBn.out))
        repeat still_step
        try refine wpStill_nil ?_
        change wpList _ _ _ _ _ W9.drew
        go_wp2_with (go_at_call 38; refine (changes_any _ _ _ _ _ _ _ _ _).mono ?_; rintro e w3 ⟨rfl, rfl⟩)
        have hW9 : w.heap.size ≤ W9.heap.size := HBn.out.size; obtain ⟨W10, hW10⟩ : ∃ W10, W10 = ((((W9.alloc (.cells #[.int .i64 k] 3)).alloc (.cells #[.slice Aa (rd_L2 l0 k).length ca] 64)).alloc (.cells #[.slice Ab (rd_L2 l1 k).length cb] 64)).alloc (.cells #[.int .i64 (sameM (rd_L2 l0 k) (rd_L2 l1 k) : Nat)] 3)).drew := ⟨_, rfl⟩
        have hsz10 : W10.heap.size = W9.heap.size + 4 := by rw [hW10]; simp
        have hb10 : Below W9.heap.size W9 W10 := by rw [hW10]; exact below_drew (below_alloc (below_alloc (below_alloc (below_alloc (Below.refl _ _) _) _) _) _)
        have hk10 : W10.heap[W9.heap.size]? = some (.cells #[.int .i64 k] 3 (0, 0)) := by
         rw [hW10]
         show ((((W9.alloc (.cells #[.int .i64 k] 3)).alloc (.cells #[.slice Aa (rd_L2 l0 k).length ca] 64)).alloc (.cells #[.slice Ab (rd_L2 l1 k).length cb] 64)).alloc (.cells #[.int .i64 (sameM (rd_L2 l0 k) (rd_L2 l1 k) : Nat)] 3)).heap[W9.heap.size]? = _
         rw [Below.heap_alloc _ _ _ (by simp; omega), Below.heap_alloc _ _ _ (by simp; omega), Below.heap_alloc _ _ _ (by simp)]; exact heap_alloc_new W9 _
        have ha10 : W10.heap[W9.heap.size + 1]? = some (.cells #[.slice Aa (rd_L2 l0 k).length ca] 64 (0, 0)) := by
         rw [hW10]
         show ((((W9.alloc (.cells #[.int .i64 k] 3)).alloc (.cells #[.slice Aa (rd_L2 l0 k).length ca] 64)).alloc (.cells #[.slice Ab (rd_L2 l1 k).length cb] 64)).alloc (.cells #[.int .i64 (sameM (rd_L2 l0 k) (rd_L2 l1 k) : Nat)] 3)).heap[W9.heap.size + 1]? = _
         rw [Below.heap_alloc _ _ _ (by simp), Below.heap_alloc _ _ _ (by simp)]; have := heap_alloc_new (W9.alloc (.cells #[.int .i64 k] 3)) (.cells #[.slice Aa (rd_L2 l0 k).length ca] 64)
         simpa using this
        have hb10' : W10.heap[W9.heap.size + 2]? = some (.cells #[.slice Ab (rd_L2 l1 k).length cb] 64 (0, 0)) := by
         rw [hW10]
         show ((((W9.alloc (.cells #[.int .i64 k] 3)).alloc (.cells #[.slice Aa (rd_L2 l0 k).length ca] 64)).alloc (.cells #[.slice Ab (rd_L2 l1 k).length cb] 64)).alloc (.cells #[.int .i64 (sameM (rd_L2 l0 k) (rd_L2 l1 k) : Nat)] 3)).heap[W9.heap.size + 2]? = _
         rw [Below.heap_alloc _ _ _ (by simp)]; have := heap_alloc_new ((W9.alloc (.cells #[.int .i64 k] 3)).alloc (.cells #[.slice Aa (rd_L2 l0 k).length ca] 64)) (.cells #[.slice Ab (rd_L2 l1 k).length cb] 64)
         simpa using this
        have hm10 : W10.heap[W9.heap.size + 3]? = some (.cells #[.int .i64 (sameM (rd_L2 l0 k) (rd_L2 l1 k) : Nat)] 3 (0, 0)) := by
         rw [hW10]
         show ((((W9.alloc (.cells #[.int .i64 k] 3)).alloc (.cells #[.slice Aa (rd_L2 l0 k).length ca] 64)).alloc (.cells #[.slice Ab (rd_L2 l1 k).length cb] 64)).alloc (.cells #[.int .i64 (sameM (rd_L2 l0 k) (rd_L2 l1 k) : Nat)] 3)).heap[W9.heap.size + 3]? = _
         have := heap_alloc_new (((W9.alloc (.cells #[.int .i64 k] 3)).alloc (.cells #[.slice Aa (rd_L2 l0 k).length ca] 64)).alloc (.cells #[.slice Ab (rd_L2 l1 k).length cb] 64)) (.cells #[.int .i64 (sameM (rd_L2 l0 k) (rd_L2 l1 k) : Nat)] 3)
         simpa using this
        rw [← hW10]; clear hW10 hx9 hy9; have hbB : Below w.heap.size w W10 := HBn.out.trans (hb10.mono hW9); have hdl := diffL_le HB0.out HB1.out k (by omega) (by omega); have hl06 := shaped_six HB0.out
        refine wpIn_wide.1 (wpIn_range_on (n := 5) (α := Yd) rfl (by omega) (gf := 64) (lb := #[.pointer (some ⟨W9.heap.size + 3, 0, none⟩), .pointer (some ⟨W9.heap.size + 1, 0, none⟩), .pointer (some ⟨W9.heap.size + 2, 0, none⟩), .pointer (some ⟨W9.heap.size, 0, none⟩)]) rfl trivial (enters_of Try.func64 (by kernel_rfl) rfl)
         (enc := Yd.enc) (T := Yd.T w.heap.size) (S := fun xs _ => xs.map (·.1) = chgs k (rd_L2 l0 k) (rd_L2 l1 k) (sameM (rd_L2 l0 k) (rd_L2 l1 k))) (N := 100000000000) (B := w.heap.size) (ts := [30, 61]) (tI := [4]) (by omega)
         (fun L => ?iter) (fun x => rfl)
         (fun s W => DiffJ w w2.heap.size l0 l1 k Ds s W)
         (fun x a1 W => ∃ b8, W.heap[b8]? = some (.cells x.cells 61 (0, 0)) ∧ a1 = { tmps := #[.slice (some ad) l0.length c0, .slice (some bd) l1.length c1, undef, undef, .slice none 0 0, .int .i64 0, .pointer (some ⟨w2.heap.size, 0, none⟩), .int .i64 k, .pointer (some ⟨b8, 0, none⟩), .slice (some ad) l0.length c0, .bool true, .bool false, .bool false, .slice (some bd) l1.length c1, .bool true, .bool false, .bool false, .bool false, .slice (some ad) l0.length c0, .int .i64 l0.length, .slice (some bd) l1.length c1, .int .i64 l1.length, .bool false, .bool false, .slice (some ad) l0.length c0, .int .i64 l0.length, .int .i64 k, .bool true, .int .i64 k, q29, q30, q31, q32, q33, q34, q35, q36, q37, q38, q39, q40, q41, q42, q43, q44, q45, q46, q47, q48, q49, q50, q51, q52, q53, q54, q55, q56, q57, q58, .bool false, .int .i64 k, .slice (some ad) l0.length c0, .int .i64 k, .pointer (some (ad.add k)), .slice Aa (rd_L2 l0 k).length ca, .slice (some bd) l1.length c1, .int .i64 k, .pointer (some (bd.add k)), .slice Ab (rd_L2 l1 k).length cb, .slice (some ad) l0.length c0, .int .i64 k, .pointer (some (ad.add k)), .slice Aa (rd_L2 l0 k).length ca, .slice (some bd) l1.length c1, .int .i64 k, .pointer (some (bd.add k)), .slice Ab (rd_L2 l1 k).length cb, .int .i64 (sameM (rd_L2 l0 k) (rd_L2 l1 k) : Nat), .func (.func 64) #[] #[.pointer (some ⟨W9.heap.size + 3, 0, none⟩), .pointer (some ⟨W9.heap.size + 1, 0, none⟩), .pointer (some ⟨W9.heap.size + 2, 0, none⟩), .pointer (some ⟨W9.heap.size, 0, none⟩)], .agg x.cells, u80, u81, u82, u83, u84, undef], defers := [] })
         ?hI ?hT (fun _ _ _ h _ => h) ?hAx ?h0 ?assign ?body ?done)
        case iter =>
         have hb12 : Below W10.heap.size W10 ((W10.alloc (.deferred (some []))).alloc (.loop L)) := below_alloc (below_alloc (Below.refl _ _) _) _
         have q : ∀ i o, W10.heap[i]? = some o → ((W10.alloc (.deferred (some []))).alloc (.loop L)).heap[i]? = some o := fun i o hi => (hb12.block i (Array.getElem?_eq_some_iff.1 hi).1).trans hi
         exact changes1_iterates _ w _ _ k _ Aa Ab ca cb (rd_L2 l0 k) (rd_L2 l1 k) _ _ _ _ (q _ _ hm10) (q _ _ ha10) (q _ _ hb10') (q _ _ hk10) (hbB.trans (hb12.mono (by omega))) HI0.out HJ0.out hsm1 hsm2
          (fun i hi => (HROW.out i (by omega) (by omega)).2) (fun i hi => by have := (HS0.out.2 i hi).2.2; omega) (fun i hi => by have := (HS1.out.2 i hi).2.2; omega) (by omega) (by omega) (fun i hi => (HROW.out i (by omega) (by omega)).1)
        case hI =>
         rintro s A C ⟨v', hm, hb, hr, hB⟩ hst; exact ⟨v', hm.stepI hst (fun D hD => by have := HG9.out.marks.lt D hD; omega), hst.other hb (by decide), R_stepI hr hst (by decide), hst.below hB (Nat.le_refl _) (by omega)⟩
        case hT =>
         rintro x A C h hst; exact R_stepI (d := Kd.int .i64) h hst (by decide)
        case hAx =>
         rintro x a1 A C ⟨b8, h8, e⟩ hst; exact ⟨b8, hst.other h8 (by decide), e⟩
        case h0 =>
         exact ⟨v, HG9.out.marks.below hb10, (hb10.block _ (blk_lt HG9.out.box)).trans HG9.out.box, by simpa using Kd.R_below HG9.out.row hb10, hbB⟩
        case assign =>
         rintro l pre ⟨s, vs⟩ W K ⟨v', hm, hbx, hr, hB⟩ ht hK; obtain ⟨As, cs, es⟩ : ∃ As cs, vs = .slice As s.f5.length cs := Kd.R_slice ht; subst es; have hal : Below W.heap.size W (W.alloc (.cells (Yd.cells (s, .slice As s.f5.length cs)) 61)) := below_alloc (Below.refl _ _) _; have HK := Aside0.mk (hK { tmps := #[.slice (some ad) l0.length c0, .slice (some bd) l1.length c1, undef, undef, .slice none 0 0, .int .i64 0, .pointer (some ⟨w2.heap.size, 0, none⟩), .int .i64 k, .pointer (some ⟨W.heap.size, 0, none⟩), .slice (some ad) l0.length c0, .bool true, .bool false, .bool false, .slice (some bd) l1.length c1, .bool true, .bool false, .bool false, .bool false, .slice (some ad) l0.length c0, .int .i64 l0.length, .slice (some bd) l1.length c1, .int .i64 l1.length, .bool false, .bool false, .slice (some ad) l0.length c0, .int .i64 l0.length, .int .i64 k, .bool true, .int .i64 k, q29, q30, q31, q32, q33, q34, q35, q36, q37, q38, q39, q40, q41, q42, q43, q44, q45, q46, q47, q48, q49, q50, q51, q52, q53, q54, q55, q56, q57, q58, .bool false, .int .i64 k, .slice (some ad) l0.length c0, .int .i64 k, .pointer (some (ad.add k)), .slice Aa (rd_L2 l0 k).length ca, .slice (some bd) l1.length c1, .int .i64 k, .pointer (some (bd.add k)), .slice Ab (rd_L2 l1 k).length cb, .slice (some ad) l0.length c0, .int .i64 k, .pointer (some (ad.add k)), .slice Aa (rd_L2 l0 k).length ca, .slice (some bd) l1.length c1, .int .i64 k, .pointer (some (bd.add k)), .slice Ab (rd_L2 l1 k).length cb, .int .i64 (sameM (rd_L2 l0 k) (rd_L2 l1 k) : Nat), .func (.func 64) #[] #[.pointer (some ⟨W9.heap.size + 3, 0, none⟩), .pointer (some ⟨W9.heap.size + 1, 0, none⟩), .pointer (some ⟨W9.heap.size + 2, 0, none⟩), .pointer (some ⟨W9.heap.size, 0, none⟩)], .agg (Yd.cells (s, .slice As s.f5.length cs)), u80, u81, u82, u83, u84, undef], defers := [] } (W.alloc (.cells (Yd.cells (s, .slice As s.f5.length cs)) 61)) (KeepBody.alloc _ _ _ _) ⟨v', hm.below hal, (hal.block _ (blk_lt hbx)).trans hbx, Kd.R_below hr hal, below_then hB hB.size hal⟩ (Kd.R_below ht hal) ⟨W.heap.size, heap_alloc_new W _, rfl⟩); clear hm hbx hr hB ht hK hal; simp only [Yd.enc, Yd.cells] at HK ⊢
         gi_wp2
         exact HK.out
        case body =>
         rintro l pre ⟨s, vs⟩ a1 W ⟨v', hm, hbx, hr, hB⟩ hlen ht ⟨b8, h8, rfl⟩; obtain ⟨As, cs, es⟩ : ∃ As cs, vs = .slice As s.f5.length cs := Kd.R_slice ht; subst es; obtain ⟨Av, cv, ev⟩ := Kd.R_slice hr; obtain ⟨nv, hnv⟩ : ∃ nv, nv = (diffL l0 l1 k ++ pre.map (·.1)).length := ⟨_, rfl⟩; rw [← hnv] at ev; subst ev; clear hnv; have hcb := cell_of_row _ _ 0 _ 30 (0, 0) hbx; simp only [Yd.cells] at h8; have hc0 := cell_of_row _ _ 0 _ 61 (0, 0) h8; have hc1 := cell_of_row _ _ 1 _ 61 (0, 0) h8; have hc2 := cell_of_row _ _ 2 _ 61 (0, 0) h8; have hc3 := cell_of_row _ _ 3 _ 61 (0, 0) h8; have hc4 := cell_of_row _ _ 4 _ 61 (0, 0) h8; have hc5 := cell_of_row _ _ 5 _ 61 (0, 0) h8; have hu61 := Try.underlying61; have HMP := Aside0.mk (M_ne (k61_mkM W w.heap.size (fun _ => True) s ht) hr); have HR9 := Aside0.mk hr; have HM9 := Aside0.mk hm; have HB9 := Aside0.mk hB; have HBX := Aside0.mk hbx
         have hlx : ((diffL l0 l1 k ++ pre.map (·.1)).length + 1) * 64 ≤ 140737488355328 := by
          rw [List.length_append, List.length_map]; omega
         have HLX := Aside0.mk hlx; clear hm hbx hr hB ht h8 hlx
         have HEND := Aside0.mk (show ∀ v1 w1, Kd.R k61 61 w1 w.heap.size (fun _ => True) v1 ((diffL l0 l1 k ++ pre.map (·.1)) ++ [s]) → (W.alloc (.cells ([.int .i64 s.f0, .int .i64 s.f1, .int .i64 s.f2, .int .i64 s.f3, .int .i64 s.f4, .slice As s.f5.length cs] : List Value).toArray 61)).grownBy w1 (.slice Av nv cv : Value).ownBlock →
           w1.heap[w2.heap.size]? = some (.cells #[.slice Av nv cv] 30 (0, 0)) ∧
           KeepBody w.heap.size [30, 61] W (w1.setCell ⟨w2.heap.size, 0, none⟩ v1) ∧ DiffJ w w2.heap.size l0 l1 k Ds (pre ++ [((s, .slice As s.f5.length cs) : Yd)]) (w1.setCell ⟨w2.heap.size, 0, none⟩ v1) from by
          intro v1 w1 hr1 hg1; have hal : Below W.heap.size W (W.alloc (.cells ([.int .i64 s.f0, .int .i64 s.f1, .int .i64 s.f2, .int .i64 s.f3, .int .i64 s.f4, .slice As s.f5.length cs] : List Value).toArray 61)) := below_alloc (Below.refl _ _) _; have hne := Kd.R_ne HR9.out HBX.out (by decide); have hlt1 := blk_lt HBX.out; have hbx1 : w1.heap[w2.heap.size]? = some (.cells #[.slice Av nv cv] 30 (0, 0)) := (hg1.block _ (by have := hal.size; omega) hne).trans ((hal.block _ hlt1).trans HBX.out)
          have hrow : ∀ r, (.slice Av nv cv : Value).ownBlock = some r → w.heap.size ≤ r := fun r e => Kd.R_base HR9.out r e
          have hkb : KeepBody w.heap.size [30, 61] W (w1.setCell ⟨w2.heap.size, 0, none⟩ v1) :=
           ((KeepBody.alloc _ _ _ _).trans (KeepBody.grown hg1 (fun r e => ⟨hrow r e, fun o ho => by
            obtain ⟨cells, hc⟩ := Kd.R_typed (Kd.R_below HR9.out hal) r e; rw [hc] at ho
            injection ho with ho
            exact ⟨cells, 61, (0, 0), ho.symm, by decide⟩⟩))).trans (KeepBody.setCell _ hbo (fun o ho => by
            rw [show ((⟨w2.heap.size, 0, none⟩ : Addr).block) = w2.heap.size from rfl, hbx1] at ho
            injection ho with ho
            exact ⟨_, 30, (0, 0), ho.symm, by decide⟩))
          refine ⟨hbx1, hkb, v1, HM9.out.later (fun i o hi ho => hkb.same i o hi (.inr (.inl ho))), ?_, ?_, ?_⟩
          ·have := blk_set hbx1 0 v1
           simpa using this
          ·have := Kd.R_set hr1 hbx1 (by decide) 0 v1
           simpa using this
          ·exact (((HB9.out.trans (hal.mono HB9.out.size)).grown hg1 (Nat.le_trans HB9.out.size hal.size) (fun r e => hrow r e)).setCell (p := ⟨w2.heap.size, 0, none⟩) hbo v1))
         gi_wp2_with ((gi_at_builtin; refine R_append_in k61 (W := W) w.heap.size rfl (.tmp 80) (.tmp 82) 30 61 (.agg #[(.int .i64 0), (.int .i64 0), (.int .i64 0), (.int .i64 0), (.int .i64 0), (.slice none 0 0)]) 64 rfl Try.underlying30 info61 rfl (by decide) (by omega) (.slice Av nv cv) (diffL l0 l1 k ++ pre.map (·.1)) s [.int .i64 s.f0, .int .i64 s.f1, .int .i64 s.f2, .int .i64 s.f3, .int .i64 s.f4, .slice As s.f5.length cs] (fun _ => True) (fun k_ => True ∧ some k_ ≠ (.slice Av nv cv : Value).ownBlock) rfl rfl HMP.out (fun _ hk => hk) (fun _ _ => trivial) HR9.out HB9.out.size HLX.out ?_; intro v1 w1 hr1 hg1 hv1; obtain ⟨A1, c1', e1⟩ := hv1; obtain ⟨n1, hn1⟩ : ∃ n1, n1 = (diffL l0 l1 k ++ pre.map (·.1)).length + 1 := ⟨_, rfl⟩; rw [← hn1] at e1; subst e1; clear hn1; have HE := HEND.out _ w1 hr1 hg1; obtain ⟨hbx1, hE2⟩ := HE; have HE2 := Aside0.mk hE2; have hcb1 := cell_of_row _ _ 0 _ 30 (0, 0) hbx1; have hfb1 : w1.frozen? ⟨w2.heap.size, 0, none⟩ = false := (by simp [World.frozen?, hbx1]); clear hbx1 hE2 hr1 hg1))
         exact HE2.out
        case done =>
         rintro D xs W hD hxs ⟨v', hm, hbx, hr, hB⟩ hDD; rw [hxs, ← diffL_snoc] at hr
         have HFIN := Aside0.mk (show DiffG w w2.heap.size l0 l1 (k + 1) (D :: Ds) v' W from ⟨by omega, hm.cons (by omega) hDD (fun hmem => by have := HG9.out.marks.lt D hmem; omega), hbx, hr, hB, fun j hj => by
          rcases Nat.lt_or_ge j k with h | h
          (· exact HG9.out.good j h)
          ·rw [show j = k from by omega]; exact HOK1.out⟩)
         clear hm hbx hr hB hDD hxs; go_wp2; refine ⟨⟨k + 1, D :: Ds, v', _, _, _, _, _, _, _, _, _, _, _, _, _, _, _, _, _, _, _, _, _, _, _, _, _, _, _, _, _, _, _, _, _, _, _, _, _, _, _, _, _, _, _, _, _, _, _, _, _, _, _, _, _, _, _, _, _, _, _, _, rfl, HFIN.out⟩, ?_⟩
         simp [intOf]
         omega
       ·have hok1 : (!okK l0 l1 k) = true := by simpa using hok
        have HF : Hid (diffR l0 l1 = ([], 2)) := by
         have : okK l0 l1 k = false := by simpa using hok
         unfold Hid diffR; rw [if_neg]; simp only [Bool.and_eq_true, not_and, Bool.not_eq_true, List.all_eq_false]; intro _; exact ⟨k, List.mem_range.2 hlt, by rw [this]⟩
        rw [hok1]; clear hok hok1; go_wp2; rw [HF.out]; exact diff_leave w _ _ Ds _ (.slice none 0 0) rfl rfl (HG.out.marks.below (pw_below_drewN (Below.refl _ _) _)) (Kd.R_nil _ _ _ _ _) (pw_below_drewN HG.out.bel _)
     ·have hbx := cell_of_row _ _ 0 _ 30 (0, 0) HG.out.box
      have hneg : ¬ ((k : Int) < (l0.length : Int)) := by omega
      have HF : Hid (diffR l0 l1 = (diffL l0 l1 k, 0)) := by
       unfold Hid diffR; rw [HB0.out, HB1.out, show l0.length = k from by omega]
       have : (List.range k).all (okK l0 l1) = true := by
        rw [List.all_eq_true]; intro j hj; exact HG.out.good j (List.mem_range.1 hj)
       rw [this]
       have : decide (k = l1.length) = true := by have := HLL.out; simp; omega
       rw [this]; rfl
      go_wp2; rw [HF.out]; exact diff_leave w _ _ Ds W v rfl rfl HG.out.marks HG.out.row HG.out.bel
   ·have hne : ((l0.length : Int) != (l1.length : Int)) = true := by rw [bne_iff_ne]; omega
    have HF : Hid (diffR l0 l1 = ([], 2)) := by unfold Hid diffR; rw [if_neg (by simp [hll])]
    go_wp2_with fail
    refine H0.out.mono ?_; rintro e w1 ⟨rfl, hb⟩; have HB := Aside0.mk hb; clear hb
    go_wp2_with fail
    refine (H1.out _ HB.out).mono ?_; rintro e w2 ⟨rfl, hb⟩; have HB2 := Aside0.mk (HB.out.trans (hb.mono HB.out.size)); clear hb; go_wp2; rw [HF.out]; exact diff_leave w _ _ [] w2 _ rfl rfl (Marked.nil _ _) (Kd.R_nil _ _ _ _ _) HB2.out
theorem diff_Diff.calls (A0 : Option Addr) (c0 : Nat) (l0 : List (List (List Int))) (A1 : Option Addr) (c1 : Nat) (l1 : List (List (List Int))) (r1 : List S61) (r2 : Int) (w : World) (hr0 : Kd.C (Kd.slice 22 (Kd.slice 3 (Kd.int .i64))) w A0 l0.length l0) (hc0 : l0.length ≤ c0)
  (hr1 : Kd.C (Kd.slice 22 (Kd.slice 3 (Kd.int .i64))) w A1 l1.length l1) (hc1 : l1.length ≤ c1) (h : diff_Diff.f l0 l1 = some (r1, r2)) :
  Calls Try.prog 14 #[.slice A0 l0.length c0, .slice A1 l1.length c1] w fun e w' => ∃ v0_ : Value, e = .returned (.tuple #[v0_, .int .i64 r2]) ∧ Kd.N k61 61 w' w.heap.size (fun k_ => w.heap.size ≤ k_) v0_ r1 ∧ Below w.heap.size w w' := by
 unfold diff_Diff.f at h
 split at h
 (· rename_i hs; have e := Option.some.inj h; have := diff_in A0 c0 l0 A1 c1 l1 w hr0 hc0 hr1 hc1 hs.1 hs.2; rw [e] at this; exact this)
 ·cases h
end Go.Proofs.Ytcgpemefmakjiaa.PX
namespace Go.Proofs.Ytcgpemefmakjiaa.PX
open Go.RowKit Go.Proofs.YtcgpemefmakjiaaW.PrintWords Go.Proofs.YtcgpemefmakjiaaW.PrintLast Go.Proofs.YtcgpemefmakjiaaW.PrintMore
attribute [local go_sem] max2_int min2_int max_two min_two max_three min_three max_four min_four   -- for this text's walks alone
set_option linter.unusedVariables false
set_option linter.unusedSimpArgs false
def dioramaref01_SameInts.l0 : Nat → List Int → List Int → Int → Option (Bool)
 | 0, _, _, _ => none
 | k + 1, x0, x1, x5 => if x5 < (x0.length : Int) then (if 0 ≤ x5 then (if x5 < (x1.length : Int) then (if (rd x0 x5) = (rd x1 x5) then (dioramaref01_SameInts.l0 k x0 x1 (wrap64 (x5 + 1))) else (some false)) else (none)) else (none)) else (some true)
def dioramaref01_SameInts.f (k : Nat) (l0 : List Int) (l1 : List Int) : Option (Bool) := if (l0.length : Int) = (l1.length : Int) then (dioramaref01_SameInts.l0 k l0 l1 0) else (some false)
set_option maxHeartbeats 8000000 in
set_option maxRecDepth 100000 in
theorem dioramaref01_SameInts.calls (k : Nat) (A0 : Option Addr) (c0 : Nat) (l0 : List Int) (A1 : Option Addr) (c1 : Nat) (l1 : List Int) (r : Bool) (w : World) (hr0 : Kd.C (Kd.int .i64) w A0 l0.length l0) (hc0 : l0.length ≤ c0) (hr1 : Kd.C (Kd.int .i64) w A1 l1.length l1) (hc1 : l1.length ≤ c1) (h : dioramaref01_SameInts.f k l0 l1 = some r) :
  Calls Try.prog 31 #[.slice A0 l0.length c0, .slice A1 l1.length c1] w fun e w' => e = .returned (.bool r) ∧ Drawn0 w w' := by
 have HR0 := Aside0.mk hr0; have HC0 := Aside0.mk hc0; clear hr0 hc0; have HR1 := Aside0.mk hr1; have HC1 := Aside0.mk hc1; clear hr1 hc1; have H : (if (l0.length : Int) = (l1.length : Int) then (dioramaref01_SameInts.l0 k l0 l1 0) else (some false)) = some r := h; clear h
 by_cases c3 : (l0.length : Int) = (l1.length : Int)
 ·rw [if_pos c3] at H
  have c3b0 : ((l0.length : Int) == (l1.length : Int)) = true := beq_iff_eq.mpr c3; have c3b1 : ((l0.length : Int) != (l1.length : Int)) = false := bne_eq_false_iff_eq.mpr c3
  have c3b2 : (l0.length == l1.length) = true := by first | simpa using c3 | (simp at c3 ⊢; omega)
  clear c3; have H' := Aside0.mk H; clear H
  go_enter Try.func31, Try.ntmps31
  go_wp2
  repeat (go_quiet (fail); try go_wp2)
  go_loopg [5] k (fun kq v5 w' => ∃ (x5_1 : Int), v5 = .int .i64 x5_1 ∧ Aside0 (dioramaref01_SameInts.l0 kq l0 l1 x5_1 = some r) ∧ Aside0 (kq ≤ k) ∧ Drawn0 w w')
  case atStart => exact ⟨(0), (by first | rfl | (simp; done) | (simp [*]; done)), H', ⟨Nat.le_refl _⟩, by repeat (first | exact Drawn0.refl _ | apply Drawn0.step)⟩
  case round =>
   clear H'
   try clear c1
   try clear p2
   try clear c3
   try clear c3b0
   try clear c3b1
   try clear c3b2
   obtain ⟨x5_1, rfl, HA, HK1, ⟨m1, rfl⟩⟩ := hrel
   cases gk with
   | zero => exact absurd HA.out (by simp [dioramaref01_SameInts.l0])
   | succ k1 =>
    have H := HA.out; clear HA; simp only [dioramaref01_SameInts.l0] at H
    by_cases c4 : x5_1 < (l0.length : Int)
    ·rw [if_pos c4] at H
     have c4b0 : decide (x5_1 < (l0.length : Int)) = true := decide_eq_true c4; clear c4
     by_cases c5 : 0 ≤ x5_1
     ·rw [if_pos c5] at H
      have c5b0 : decide (0 ≤ x5_1) = true := decide_eq_true c5; clear c5
      by_cases c6 : x5_1 < (l1.length : Int)
      ·rw [if_pos c6] at H
       have c6b0 : decide (x5_1 < (l1.length : Int)) = true := decide_eq_true c6; clear c6
       by_cases c7 : (rd l0 x5_1) = (rd l1 x5_1)
       ·rw [if_pos c7] at H
        have c7b0 : ((rd l0 x5_1) == (rd l1 x5_1)) = true := beq_iff_eq.mpr c7; have c7b1 : ((rd l0 x5_1) != (rd l1 x5_1)) = false := bne_eq_false_iff_eq.mpr c7; clear c7; have H' := Aside0.mk H; clear H; have p192 : 0 ≤ (x5_1 : Int) := of_decide_eq_true (by first | (with_reducible assumption) | assumption); have q192 : x5_1 < (l0.length : Int) := of_decide_eq_true (by first | (with_reducible assumption) | assumption); obtain ⟨ad192, e192, hx192_0⟩ := Kd.at_int HR0.out x5_1 p192 q192
        cases e192
        replace p192 := eq_true p192; replace q192 := eq_true q192; have p193 : 0 ≤ (x5_1 : Int) := of_decide_eq_true (by first | (with_reducible assumption) | assumption); have q193 : x5_1 < (l1.length : Int) := of_decide_eq_true (by first | (with_reducible assumption) | assumption); obtain ⟨ad193, e193, hx193_0⟩ := Kd.at_int HR1.out x5_1 p193 q193
        cases e193
        replace p193 := eq_true p193; replace q193 := eq_true q193; go_wp2
        repeat (go_quiet (fail); try go_wp2)
        go_roundg k1
        case measure => have := HK1.out; omega
        case rel => exact ⟨(wrap64 (x5_1 + 1)), (by first | rfl | (simp; done) | (simp [*]; done)), H', ⟨by have := HK1.out; omega⟩, by repeat (first | exact Drawn0.refl _ | apply Drawn0.step)⟩
       ·rw [if_neg c7] at H
        have c7b0 : ((rd l0 x5_1) == (rd l1 x5_1)) = false := beq_eq_false_iff_ne.mpr c7; have c7b1 : ((rd l0 x5_1) != (rd l1 x5_1)) = true := bne_iff_ne.mpr c7; obtain rfl := Option.some.inj H; have p192 : 0 ≤ (x5_1 : Int) := of_decide_eq_true (by first | (with_reducible assumption) | assumption); have q192 : x5_1 < (l0.length : Int) := of_decide_eq_true (by first | (with_reducible assumption) | assumption); obtain ⟨ad192, e192, hx192_0⟩ := Kd.at_int HR0.out x5_1 p192 q192
        cases e192
        replace p192 := eq_true p192; replace q192 := eq_true q192; have p193 : 0 ≤ (x5_1 : Int) := of_decide_eq_true (by first | (with_reducible assumption) | assumption); have q193 : x5_1 < (l1.length : Int) := of_decide_eq_true (by first | (with_reducible assumption) | assumption); obtain ⟨ad193, e193, hx193_0⟩ := Kd.at_int HR1.out x5_1 p193 q193
        cases e193
        replace p193 := eq_true p193; replace q193 := eq_true q193; go_wp2
        repeat (go_quiet (fail); try go_wp2)
        go_ret; exact ⟨by first | rfl | (simp; done) | (simp [*]; done), by repeat (first | exact Drawn0.refl _ | apply Drawn0.step)⟩
      (· rw [if_neg c6] at H; exact absurd H (by simp))
     (· rw [if_neg c5] at H; exact absurd H (by simp))
    ·rw [if_neg c4] at H
     have c4b0 : decide (x5_1 < (l0.length : Int)) = false := decide_eq_false c4; clear c4; obtain rfl := Option.some.inj H; go_wp2
     repeat (go_quiet (fail); try go_wp2)
     go_ret; exact ⟨by first | rfl | (simp; done) | (simp [*]; done), by repeat (first | exact Drawn0.refl _ | apply Drawn0.step)⟩
 ·rw [if_neg c3] at H
  have c3b0 : ((l0.length : Int) == (l1.length : Int)) = false := beq_eq_false_iff_ne.mpr c3; have c3b1 : ((l0.length : Int) != (l1.length : Int)) = true := bne_iff_ne.mpr c3
  have c3b2 : (l0.length == l1.length) = false := by first | simpa using c3 | (simp at c3 ⊢; omega)
  obtain rfl := Option.some.inj H
  go_enter Try.func31, Try.ntmps31
  go_wp2
  repeat (go_quiet (fail); try go_wp2)
  go_ret; exact ⟨by first | rfl | (simp; done) | (simp [*]; done), by repeat (first | exact Drawn0.refl _ | apply Drawn0.step)⟩
end Go.Proofs.Ytcgpemefmakjiaa.PX
namespace Go.Proofs.Ytcgpemefmakjiaa.PX
open Go.RowKit Go.Proofs.YtcgpemefmakjiaaW.PrintWords Go.Proofs.YtcgpemefmakjiaaW.PrintLast Go.Proofs.YtcgpemefmakjiaaW.PrintMore
attribute [local go_sem] max2_int min2_int max_two min_two max_three min_three max_four min_four   -- for this text's walks alone
set_option linter.unusedVariables false
set_option linter.unusedSimpArgs false
def dioramaref36_Same.f (k : Nat) (a0_0 : Int) (a0_1 : Int) (a0_2 : Int) (a0_3 : Int) (a0_4 : Int) (l0_5 : List Int) (a1_0 : Int) (a1_1 : Int) (a1_2 : Int) (a1_3 : Int) (a1_4 : Int) (l1_5 : List Int) : Option (Bool) := if a0_0 = a1_0 then (if a0_1 = a1_1 then (if a0_2 = a1_2 then (if a0_3 = a1_3 then (if a0_4 = a1_4 then ((dioramaref01_SameInts.f k l0_5 l1_5).bind fun t196 => (some t196)) else (some false)) else (some false)) else (some false)) else (some false)) else (some false)
set_option maxHeartbeats 8000000 in
set_option maxRecDepth 100000 in
theorem dioramaref36_Same.calls (k : Nat) (a0_0 : Int) (a0_1 : Int) (a0_2 : Int) (a0_3 : Int) (a0_4 : Int) (A0_5 : Option Addr) (c0_5 : Nat) (l0_5 : List Int) (a1_0 : Int) (a1_1 : Int) (a1_2 : Int) (a1_3 : Int) (a1_4 : Int) (A1_5 : Option Addr) (c1_5 : Nat) (l1_5 : List Int) (r : Bool) (w : World) (hr0_5 : Kd.C (Kd.int .i64) w A0_5 l0_5.length l0_5) (hc0_5 : l0_5.length ≤ c0_5) (hr1_5 : Kd.C (Kd.int .i64) w A1_5 l1_5.length l1_5) (hc1_5 : l1_5.length ≤ c1_5) (h : dioramaref36_Same.f k a0_0 a0_1 a0_2 a0_3 a0_4 l0_5 a1_0 a1_1 a1_2 a1_3 a1_4 l1_5 = some r) :
  Calls Try.prog 42 #[.agg #[.int .i64 a0_0, .int .i64 a0_1, .int .i64 a0_2, .int .i64 a0_3, .int .i64 a0_4, .slice A0_5 l0_5.length c0_5], .agg #[.int .i64 a1_0, .int .i64 a1_1, .int .i64 a1_2, .int .i64 a1_3, .int .i64 a1_4, .slice A1_5 l1_5.length c1_5]] w fun e w' => e = .returned (.bool r) ∧ Below w.heap.size w w' := by
 have hu76 := Try.underlying76; have HR0_5 := Aside0.mk hr0_5; have HC0_5 := Aside0.mk hc0_5; clear hr0_5 hc0_5; have HR1_5 := Aside0.mk hr1_5; have HC1_5 := Aside0.mk hc1_5; clear hr1_5 hc1_5; have HB := Aside0.mk (Below.refl w.heap.size w); have H : (if a0_0 = a1_0 then (if a0_1 = a1_1 then (if a0_2 = a1_2 then (if a0_3 = a1_3 then (if a0_4 = a1_4 then ((dioramaref01_SameInts.f k l0_5 l1_5).bind fun t196 => (some t196)) else (some false)) else (some false)) else (some false)) else (some false)) else (some false)) = some r := h; clear h
 by_cases c3 : a0_0 = a1_0
 ·rw [if_pos c3] at H
  have c3b0 : (a0_0 == a1_0) = true := beq_iff_eq.mpr c3; have c3b1 : (a0_0 != a1_0) = false := bne_eq_false_iff_eq.mpr c3; clear c3
  by_cases c4 : a0_1 = a1_1
  ·rw [if_pos c4] at H
   have c4b0 : (a0_1 == a1_1) = true := beq_iff_eq.mpr c4; have c4b1 : (a0_1 != a1_1) = false := bne_eq_false_iff_eq.mpr c4; clear c4
   by_cases c5 : a0_2 = a1_2
   ·rw [if_pos c5] at H
    have c5b0 : (a0_2 == a1_2) = true := beq_iff_eq.mpr c5; have c5b1 : (a0_2 != a1_2) = false := bne_eq_false_iff_eq.mpr c5; clear c5
    by_cases c6 : a0_3 = a1_3
    ·rw [if_pos c6] at H
     have c6b0 : (a0_3 == a1_3) = true := beq_iff_eq.mpr c6; have c6b1 : (a0_3 != a1_3) = false := bne_eq_false_iff_eq.mpr c6; clear c6
     by_cases c7 : a0_4 = a1_4
     ·rw [if_pos c7] at H
      have c7b0 : (a0_4 == a1_4) = true := beq_iff_eq.mpr c7; have c7b1 : (a0_4 != a1_4) = false := bne_eq_false_iff_eq.mpr c7; clear c7; replace H := Option.bind_eq_some_iff.mp H; obtain ⟨t196, A80, H⟩ := H; replace H : (some t196) = some r := H; have A8 := Aside0.mk A80; clear A80; obtain rfl := Option.some.inj H
      go_enter Try.func42, Try.ntmps42
      go_wp2_with (first | ((with_reducible refine gate_dst (N := 2) rfl ?_); refine box_event ?hg (N := 2) ?hd (cs := #[.int .i64 a0_0, .int .i64 a0_1, .int .i64 a0_2, .int .i64 a0_3, .int .i64 a0_4, .slice A0_5 l0_5.length c0_5]) (t := 76) ?hr ?_; (case hd => rfl); (case hg => rfl); (case hr => first | (go_simp; done) | (go_simp; rfl)); intro gb194 hg w9 hbox hb; have n0_ := Aside0.mk (below_step (by repeat (first | (with_reducible first | exact HB.out | apply below_alloc | apply pw_below_drewN | apply below_drew1) | exact HB.out)) hb); have n1_ := Aside0.mk (hbox); have n2_ := Aside0.mk ((by rw [hg]; exact (below_size (by repeat (first | (with_reducible first | exact HB.out | apply below_alloc | apply pw_below_drewN | apply below_drew1) | exact HB.out))) : w.heap.size ≤ gb194)); have n3_ := Aside0.mk ((by rw [hg]; exact (below_size (by repeat (first | (with_reducible first | exact HB.out | apply below_alloc | apply pw_below_drewN | apply below_drew1) | exact HB.out))) : w.heap.size ≤ gb194)); clear HB; have HB := n0_; have BK194 := n1_; have GW194 := n2_; have GE194 := n3_; clear n0_ n1_ n2_ n3_; clear hb hbox hg) | ((with_reducible refine gate_dst (N := 3) rfl ?_); refine box_event ?hg (N := 3) ?hd (cs := #[.int .i64 a1_0, .int .i64 a1_1, .int .i64 a1_2, .int .i64 a1_3, .int .i64 a1_4, .slice A1_5 l1_5.length c1_5]) (t := 76) ?hr ?_; (case hd => rfl); (case hg => rfl); (case hr => first | (go_simp; done) | (go_simp; rfl)); intro gb195 hg w10 hbox hb; have n0_ := Aside0.mk (blk_below (g := gb194) (o := .cells #[.int .i64 a0_0, .int .i64 a0_1, .int .i64 a0_2, .int .i64 a0_3, .int .i64 a0_4, .slice A0_5 l0_5.length c0_5] 76 (0, 0)) (by (with_reducible repeat (first | refine blk_drewN ?_ _ | refine blk_drew ?_ | refine blk_alloc ?_ _)); exact BK194.out) hb); have n1_ := Aside0.mk (below_step (by repeat (first | (with_reducible first | exact HB.out | apply below_alloc | apply pw_below_drewN | apply below_drew1 | refine below_set ?_ GE194.out) | exact HB.out)) hb); have n2_ := Aside0.mk (hbox); have n3_ := Aside0.mk ((by rw [hg]; exact (below_size (by repeat (first | (with_reducible first | exact HB.out | apply below_alloc | apply pw_below_drewN | apply below_drew1 | refine below_set ?_ GE194.out) | exact HB.out))) : w.heap.size ≤ gb195)); have n4_ := Aside0.mk ((by rw [hg]; exact (below_size (by repeat (first | (with_reducible first | exact HB.out | apply below_alloc | apply pw_below_drewN | apply below_drew1 | refine below_set ?_ GE194.out) | exact HB.out))) : w.heap.size ≤ gb195)); have n5_ := Aside0.mk ((by rw [hg]; exact Nat.ne_of_lt (blk_lt (g := gb194) (o := .cells #[.int .i64 a0_0, .int .i64 a0_1, .int .i64 a0_2, .int .i64 a0_3, .int .i64 a0_4, .slice A0_5 l0_5.length c0_5] 76 (0, 0)) (by (with_reducible repeat (first | refine blk_drewN ?_ _ | refine blk_drew ?_ | refine blk_alloc ?_ _)); exact BK194.out)) : gb194 ≠ gb195)); have n6_ := Aside0.mk ((by rw [hg]; exact Nat.ne_of_gt (blk_lt (g := gb194) (o := .cells #[.int .i64 a0_0, .int .i64 a0_1, .int .i64 a0_2, .int .i64 a0_3, .int .i64 a0_4, .slice A0_5 l0_5.length c0_5] 76 (0, 0)) (by (with_reducible repeat (first | refine blk_drewN ?_ _ | refine blk_drew ?_ | refine blk_alloc ?_ _)); exact BK194.out)) : gb195 ≠ gb194)); clear BK194; clear HB; have BK194 := n0_; have HB := n1_; have BK195 := n2_; have GW195 := n3_; have GE195 := n4_; have NB194_195 := n5_; have NB195_194 := n6_; clear n0_ n1_ n2_ n3_ n4_ n5_ n6_; clear hb hbox hg; have hnb11 := NB194_195.out; have hnc11 := NB195_194.out; have hcz12_0 : w10.cell? ⟨gb194, 0, none⟩ = some (.int .i64 a0_0) := (blk_cell BK194.out 0).trans rfl; have hcz12_1 : w10.cell? ⟨gb194, 1, none⟩ = some (.int .i64 a0_1) := (blk_cell BK194.out 1).trans rfl; have hcz12_2 : w10.cell? ⟨gb194, 2, none⟩ = some (.int .i64 a0_2) := (blk_cell BK194.out 2).trans rfl; have hcz12_3 : w10.cell? ⟨gb194, 3, none⟩ = some (.int .i64 a0_3) := (blk_cell BK194.out 3).trans rfl; have hcz12_4 : w10.cell? ⟨gb194, 4, none⟩ = some (.int .i64 a0_4) := (blk_cell BK194.out 4).trans rfl; have hcz12_5 : w10.cell? ⟨gb194, 5, none⟩ = some (.slice A0_5 l0_5.length c0_5) := (blk_cell BK194.out 5).trans rfl; have hfz12_0 := blk_frozen BK194.out 0; have hfz12_1 := blk_frozen BK194.out 1; have hfz12_2 := blk_frozen BK194.out 2; have hfz12_3 := blk_frozen BK194.out 3; have hfz12_4 := blk_frozen BK194.out 4; have hfz12_5 := blk_frozen BK194.out 5; have hcz13_0 : w10.cell? ⟨gb195, 0, none⟩ = some (.int .i64 a1_0) := (blk_cell BK195.out 0).trans rfl; have hcz13_1 : w10.cell? ⟨gb195, 1, none⟩ = some (.int .i64 a1_1) := (blk_cell BK195.out 1).trans rfl; have hcz13_2 : w10.cell? ⟨gb195, 2, none⟩ = some (.int .i64 a1_2) := (blk_cell BK195.out 2).trans rfl; have hcz13_3 : w10.cell? ⟨gb195, 3, none⟩ = some (.int .i64 a1_3) := (blk_cell BK195.out 3).trans rfl; have hcz13_4 : w10.cell? ⟨gb195, 4, none⟩ = some (.int .i64 a1_4) := (blk_cell BK195.out 4).trans rfl; have hcz13_5 : w10.cell? ⟨gb195, 5, none⟩ = some (.slice A1_5 l1_5.length c1_5) := (blk_cell BK195.out 5).trans rfl; have hfz13_0 := blk_frozen BK195.out 0; have hfz13_1 := blk_frozen BK195.out 1; have hfz13_2 := blk_frozen BK195.out 2; have hfz13_3 := blk_frozen BK195.out 3; have hfz13_4 := blk_frozen BK195.out 4; have hfz13_5 := blk_frozen BK195.out 5) | (go_at_call 31; (with_reducible refine (dioramaref01_SameInts.calls k _ _ l0_5 _ _ l1_5 t196 _ ?side1 ?side2 ?side3 ?side4 A8.out).mono ?_); (case side1 => repeat (first | exact (Kd.C_below HR0_5.out HB.out) | (with_reducible refine Kd.C_alloc ?_ _) | (with_reducible refine Kd.C_drewN ?_ _) | (with_reducible refine Kd.C_drew ?_))); (case side2 => exact HC0_5.out); (case side3 => repeat (first | exact (Kd.C_below HR1_5.out HB.out) | (with_reducible refine Kd.C_alloc ?_ _) | (with_reducible refine Kd.C_drewN ?_ _) | (with_reducible refine Kd.C_drew ?_))); (case side4 => exact HC1_5.out); rintro e w' ⟨rfl, ⟨nd, rfl⟩⟩))
      go_ret; exact ⟨by first | rfl | (simp [errW_none, errW_some] <;> rfl) | (simp [*, errW_none, errW_some] <;> rfl), by repeat (first | (with_reducible first | exact HB.out | apply below_alloc | apply pw_below_drewN | apply below_drew1 | refine below_set ?_ GE194.out | refine below_set ?_ GE195.out) | exact HB.out)⟩
     ·rw [if_neg c7] at H
      have c7b0 : (a0_4 == a1_4) = false := beq_eq_false_iff_ne.mpr c7; have c7b1 : (a0_4 != a1_4) = true := bne_iff_ne.mpr c7; obtain rfl := Option.some.inj H
      go_enter Try.func42, Try.ntmps42
      go_wp2_with (first | ((with_reducible refine gate_dst (N := 2) rfl ?_); refine box_event ?hg (N := 2) ?hd (cs := #[.int .i64 a0_0, .int .i64 a0_1, .int .i64 a0_2, .int .i64 a0_3, .int .i64 a0_4, .slice A0_5 l0_5.length c0_5]) (t := 76) ?hr ?_; (case hd => rfl); (case hg => rfl); (case hr => first | (go_simp; done) | (go_simp; rfl)); intro gb194 hg w14 hbox hb; have n0_ := Aside0.mk (below_step (by repeat (first | (with_reducible first | exact HB.out | apply below_alloc | apply pw_below_drewN | apply below_drew1) | exact HB.out)) hb); have n1_ := Aside0.mk (hbox); have n2_ := Aside0.mk ((by rw [hg]; exact (below_size (by repeat (first | (with_reducible first | exact HB.out | apply below_alloc | apply pw_below_drewN | apply below_drew1) | exact HB.out))) : w.heap.size ≤ gb194)); have n3_ := Aside0.mk ((by rw [hg]; exact (below_size (by repeat (first | (with_reducible first | exact HB.out | apply below_alloc | apply pw_below_drewN | apply below_drew1) | exact HB.out))) : w.heap.size ≤ gb194)); clear HB; have HB := n0_; have BK194 := n1_; have GW194 := n2_; have GE194 := n3_; clear n0_ n1_ n2_ n3_; clear hb hbox hg) | ((with_reducible refine gate_dst (N := 3) rfl ?_); refine box_event ?hg (N := 3) ?hd (cs := #[.int .i64 a1_0, .int .i64 a1_1, .int .i64 a1_2, .int .i64 a1_3, .int .i64 a1_4, .slice A1_5 l1_5.length c1_5]) (t := 76) ?hr ?_; (case hd => rfl); (case hg => rfl); (case hr => first | (go_simp; done) | (go_simp; rfl)); intro gb195 hg w15 hbox hb; have n0_ := Aside0.mk (blk_below (g := gb194) (o := .cells #[.int .i64 a0_0, .int .i64 a0_1, .int .i64 a0_2, .int .i64 a0_3, .int .i64 a0_4, .slice A0_5 l0_5.length c0_5] 76 (0, 0)) (by (with_reducible repeat (first | refine blk_drewN ?_ _ | refine blk_drew ?_ | refine blk_alloc ?_ _)); exact BK194.out) hb); have n1_ := Aside0.mk (below_step (by repeat (first | (with_reducible first | exact HB.out | apply below_alloc | apply pw_below_drewN | apply below_drew1 | refine below_set ?_ GE194.out) | exact HB.out)) hb); have n2_ := Aside0.mk (hbox); have n3_ := Aside0.mk ((by rw [hg]; exact (below_size (by repeat (first | (with_reducible first | exact HB.out | apply below_alloc | apply pw_below_drewN | apply below_drew1 | refine below_set ?_ GE194.out) | exact HB.out))) : w.heap.size ≤ gb195)); have n4_ := Aside0.mk ((by rw [hg]; exact (below_size (by repeat (first | (with_reducible first | exact HB.out | apply below_alloc | apply pw_below_drewN | apply below_drew1 | refine below_set ?_ GE194.out) | exact HB.out))) : w.heap.size ≤ gb195)); have n5_ := Aside0.mk ((by rw [hg]; exact Nat.ne_of_lt (blk_lt (g := gb194) (o := .cells #[.int .i64 a0_0, .int .i64 a0_1, .int .i64 a0_2, .int .i64 a0_3, .int .i64 a0_4, .slice A0_5 l0_5.length c0_5] 76 (0, 0)) (by (with_reducible repeat (first | refine blk_drewN ?_ _ | refine blk_drew ?_ | refine blk_alloc ?_ _)); exact BK194.out)) : gb194 ≠ gb195)); have n6_ := Aside0.mk ((by rw [hg]; exact Nat.ne_of_gt (blk_lt (g := gb194) (o := .cells #[.int .i64 a0_0, .int .i64 a0_1, .int .i64 a0_2, .int .i64 a0_3, .int .i64 a0_4, .slice A0_5 l0_5.length c0_5] 76 (0, 0)) (by (with_reducible repeat (first | refine blk_drewN ?_ _ | refine blk_drew ?_ | refine blk_alloc ?_ _)); exact BK194.out)) : gb195 ≠ gb194)); clear BK194; clear HB; have BK194 := n0_; have HB := n1_; have BK195 := n2_; have GW195 := n3_; have GE195 := n4_; have NB194_195 := n5_; have NB195_194 := n6_; clear n0_ n1_ n2_ n3_ n4_ n5_ n6_; clear hb hbox hg; have hnb16 := NB194_195.out; have hnc16 := NB195_194.out; have hcz17_0 : w15.cell? ⟨gb194, 0, none⟩ = some (.int .i64 a0_0) := (blk_cell BK194.out 0).trans rfl; have hcz17_1 : w15.cell? ⟨gb194, 1, none⟩ = some (.int .i64 a0_1) := (blk_cell BK194.out 1).trans rfl; have hcz17_2 : w15.cell? ⟨gb194, 2, none⟩ = some (.int .i64 a0_2) := (blk_cell BK194.out 2).trans rfl; have hcz17_3 : w15.cell? ⟨gb194, 3, none⟩ = some (.int .i64 a0_3) := (blk_cell BK194.out 3).trans rfl; have hcz17_4 : w15.cell? ⟨gb194, 4, none⟩ = some (.int .i64 a0_4) := (blk_cell BK194.out 4).trans rfl; have hcz17_5 : w15.cell? ⟨gb194, 5, none⟩ = some (.slice A0_5 l0_5.length c0_5) := (blk_cell BK194.out 5).trans rfl; have hfz17_0 := blk_frozen BK194.out 0; have hfz17_1 := blk_frozen BK194.out 1; have hfz17_2 := blk_frozen BK194.out 2; have hfz17_3 := blk_frozen BK194.out 3; have hfz17_4 := blk_frozen BK194.out 4; have hfz17_5 := blk_frozen BK194.out 5; have hcz18_0 : w15.cell? ⟨gb195, 0, none⟩ = some (.int .i64 a1_0) := (blk_cell BK195.out 0).trans rfl; have hcz18_1 : w15.cell? ⟨gb195, 1, none⟩ = some (.int .i64 a1_1) := (blk_cell BK195.out 1).trans rfl; have hcz18_2 : w15.cell? ⟨gb195, 2, none⟩ = some (.int .i64 a1_2) := (blk_cell BK195.out 2).trans rfl; have hcz18_3 : w15.cell? ⟨gb195, 3, none⟩ = some (.int .i64 a1_3) := (blk_cell BK195.out 3).trans rfl; have hcz18_4 : w15.cell? ⟨gb195, 4, none⟩ = some (.int .i64 a1_4) := (blk_cell BK195.out 4).trans rfl; have hcz18_5 : w15.cell? ⟨gb195, 5, none⟩ = some (.slice A1_5 l1_5.length c1_5) := (blk_cell BK195.out 5).trans rfl; have hfz18_0 := blk_frozen BK195.out 0; have hfz18_1 := blk_frozen BK195.out 1; have hfz18_2 := blk_frozen BK195.out 2; have hfz18_3 := blk_frozen BK195.out 3; have hfz18_4 := blk_frozen BK195.out 4; have hfz18_5 := blk_frozen BK195.out 5))
      go_ret; exact ⟨by first | rfl | (simp [errW_none, errW_some] <;> rfl) | (simp [*, errW_none, errW_some] <;> rfl), by repeat (first | (with_reducible first | exact HB.out | apply below_alloc | apply pw_below_drewN | apply below_drew1 | refine below_set ?_ GE194.out | refine below_set ?_ GE195.out) | exact HB.out)⟩
    ·rw [if_neg c6] at H
     have c6b0 : (a0_3 == a1_3) = false := beq_eq_false_iff_ne.mpr c6; have c6b1 : (a0_3 != a1_3) = true := bne_iff_ne.mpr c6; obtain rfl := Option.some.inj H
     go_enter Try.func42, Try.ntmps42
     go_wp2_with (first | ((with_reducible refine gate_dst (N := 2) rfl ?_); refine box_event ?hg (N := 2) ?hd (cs := #[.int .i64 a0_0, .int .i64 a0_1, .int .i64 a0_2, .int .i64 a0_3, .int .i64 a0_4, .slice A0_5 l0_5.length c0_5]) (t := 76) ?hr ?_; (case hd => rfl); (case hg => rfl); (case hr => first | (go_simp; done) | (go_simp; rfl)); intro gb194 hg w19 hbox hb; have n0_ := Aside0.mk (below_step (by repeat (first | (with_reducible first | exact HB.out | apply below_alloc | apply pw_below_drewN | apply below_drew1) | exact HB.out)) hb); have n1_ := Aside0.mk (hbox); have n2_ := Aside0.mk ((by rw [hg]; exact (below_size (by repeat (first | (with_reducible first | exact HB.out | apply below_alloc | apply pw_below_drewN | apply below_drew1) | exact HB.out))) : w.heap.size ≤ gb194)); have n3_ := Aside0.mk ((by rw [hg]; exact (below_size (by repeat (first | (with_reducible first | exact HB.out | apply below_alloc | apply pw_below_drewN | apply below_drew1) | exact HB.out))) : w.heap.size ≤ gb194)); clear HB; have HB := n0_; have BK194 := n1_; have GW194 := n2_; have GE194 := n3_; clear n0_ n1_ n2_ n3_; clear hb hbox hg) | ((with_reducible refine gate_dst (N := 3) rfl ?_); refine box_event ?hg (N := 3) ?hd (cs := #[.int .i64 a1_0, .int .i64 a1_1, .int .i64 a1_2, .int .i64 a1_3, .int .i64 a1_4, .slice A1_5 l1_5.length c1_5]) (t := 76) ?hr ?_; (case hd => rfl); (case hg => rfl); (case hr => first | (go_simp; done) | (go_simp; rfl)); intro gb195 hg w20 hbox hb; have n0_ := Aside0.mk (blk_below (g := gb194) (o := .cells #[.int .i64 a0_0, .int .i64 a0_1, .int .i64 a0_2, .int .i64 a0_3, .int .i64 a0_4, .slice A0_5 l0_5.length c0_5] 76 (0, 0)) (by (with_reducible repeat (first | refine blk_drewN ?_ _ | refine blk_drew ?_ | refine blk_alloc ?_ _)); exact BK194.out) hb); have n1_ := Aside0.mk (below_step (by repeat (first | (with_reducible first | exact HB.out | apply below_alloc | apply pw_below_drewN | apply below_drew1 | refine below_set ?_ GE194.out) | exact HB.out)) hb); have n2_ := Aside0.mk (hbox); have n3_ := Aside0.mk ((by rw [hg]; exact (below_size (by repeat (first | (with_reducible first | exact HB.out | apply below_alloc | apply pw_below_drewN | apply below_drew1 | refine below_set ?_ GE194.out) | exact HB.out))) : w.heap.size ≤ gb195)); have n4_ := Aside0.mk ((by rw [hg]; exact (below_size (by repeat (first | (with_reducible first | exact HB.out | apply below_alloc | apply pw_below_drewN | apply below_drew1 | refine below_set ?_ GE194.out) | exact HB.out))) : w.heap.size ≤ gb195)); have n5_ := Aside0.mk ((by rw [hg]; exact Nat.ne_of_lt (blk_lt (g := gb194) (o := .cells #[.int .i64 a0_0, .int .i64 a0_1, .int .i64 a0_2, .int .i64 a0_3, .int .i64 a0_4, .slice A0_5 l0_5.length c0_5] 76 (0, 0)) (by (with_reducible repeat (first | refine blk_drewN ?_ _ | refine blk_drew ?_ | refine blk_alloc ?_ _)); exact BK194.out)) : gb194 ≠ gb195)); have n6_ := Aside0.mk ((by rw [hg]; exact Nat.ne_of_gt (blk_lt (g := gb194) (o := .cells #[.int .i64 a0_0, .int .i64 a0_1, .int .i64 a0_2, .int .i64 a0_3, .int .i64 a0_4, .slice A0_5 l0_5.length c0_5] 76 (0, 0)) (by (with_reducible repeat (first | refine blk_drewN ?_ _ | refine blk_drew ?_ | refine blk_alloc ?_ _)); exact BK194.out)) : gb195 ≠ gb194)); clear BK194; clear HB; have BK194 := n0_; have HB := n1_; have BK195 := n2_; have GW195 := n3_; have GE195 := n4_; have NB194_195 := n5_; have NB195_194 := n6_; clear n0_ n1_ n2_ n3_ n4_ n5_ n6_; clear hb hbox hg; have hnb21 := NB194_195.out; have hnc21 := NB195_194.out; have hcz22_0 : w20.cell? ⟨gb194, 0, none⟩ = some (.int .i64 a0_0) := (blk_cell BK194.out 0).trans rfl; have hcz22_1 : w20.cell? ⟨gb194, 1, none⟩ = some (.int .i64 a0_1) := (blk_cell BK194.out 1).trans rfl; have hcz22_2 : w20.cell? ⟨gb194, 2, none⟩ = some (.int .i64 a0_2) := (blk_cell BK194.out 2).trans rfl; have hcz22_3 : w20.cell? ⟨gb194, 3, none⟩ = some (.int .i64 a0_3) := (blk_cell BK194.out 3).trans rfl; have hcz22_4 : w20.cell? ⟨gb194, 4, none⟩ = some (.int .i64 a0_4) := (blk_cell BK194.out 4).trans rfl; have hcz22_5 : w20.cell? ⟨gb194, 5, none⟩ = some (.slice A0_5 l0_5.length c0_5) := (blk_cell BK194.out 5).trans rfl; have hfz22_0 := blk_frozen BK194.out 0; have hfz22_1 := blk_frozen BK194.out 1; have hfz22_2 := blk_frozen BK194.out 2; have hfz22_3 := blk_frozen BK194.out 3; have hfz22_4 := blk_frozen BK194.out 4; have hfz22_5 := blk_frozen BK194.out 5; have hcz23_0 : w20.cell? ⟨gb195, 0, none⟩ = some (.int .i64 a1_0) := (blk_cell BK195.out 0).trans rfl; have hcz23_1 : w20.cell? ⟨gb195, 1, none⟩ = some (.int .i64 a1_1) := (blk_cell BK195.out 1).trans rfl; have hcz23_2 : w20.cell? ⟨gb195, 2, none⟩ = some (.int .i64 a1_2) := (blk_cell BK195.out 2).trans rfl; have hcz23_3 : w20.cell? ⟨gb195, 3, none⟩ = some (.int .i64 a1_3) := (blk_cell BK195.out 3).trans rfl; have hcz23_4 : w20.cell? ⟨gb195, 4, none⟩ = some (.int .i64 a1_4) := (blk_cell BK195.out 4).trans rfl; have hcz23_5 : w20.cell? ⟨gb195, 5, none⟩ = some (.slice A1_5 l1_5.length c1_5) := (blk_cell BK195.out 5).trans rfl; have hfz23_0 := blk_frozen BK195.out 0; have hfz23_1 := blk_frozen BK195.out 1; have hfz23_2 := blk_frozen BK195.out 2; have hfz23_3 := blk_frozen BK195.out 3; have hfz23_4 := blk_frozen BK195.out 4; have hfz23_5 := blk_frozen BK195.out 5))
     go_ret; exact ⟨by first | rfl | (simp [errW_none, errW_some] <;> rfl) | (simp [*, errW_none, errW_some] <;> rfl), by repeat (first | (with_reducible first | exact HB.out | apply below_alloc | apply pw_below_drewN | apply below_drew1 | refine below_set ?_ GE194.out | refine below_set ?_ GE195.out) | exact HB.out)⟩
   ·rw [if_neg c5] at H
    have c5b0 : (a0_2 == a1_2) = false := beq_eq_false_iff_ne.mpr c5; have c5b1 : (a0_2 != a1_2) = true := bne_iff_ne.mpr c5; obtain rfl := Option.some.inj H
    go_enter Try.func42, Try.ntmps42
    go_wp2_with (first | ((with_reducible refine gate_dst (N := 2) rfl ?_); refine box_event ?hg (N := 2) ?hd (cs := #[.int .i64 a0_0, .int .i64 a0_1, .int .i64 a0_2, .int .i64 a0_3, .int .i64 a0_4, .slice A0_5 l0_5.length c0_5]) (t := 76) ?hr ?_; (case hd => rfl); (case hg => rfl); (case hr => first | (go_simp; done) | (go_simp; rfl)); intro gb194 hg w24 hbox hb; have n0_ := Aside0.mk (below_step (by repeat (first | (with_reducible first | exact HB.out | apply below_alloc | apply pw_below_drewN | apply below_drew1) | exact HB.out)) hb); have n1_ := Aside0.mk (hbox); have n2_ := Aside0.mk ((by rw [hg]; exact (below_size (by repeat (first | (with_reducible first | exact HB.out | apply below_alloc | apply pw_below_drewN | apply below_drew1) | exact HB.out))) : w.heap.size ≤ gb194)); have n3_ := Aside0.mk ((by rw [hg]; exact (below_size (by repeat (first | (with_reducible first | exact HB.out | apply below_alloc | apply pw_below_drewN | apply below_drew1) | exact HB.out))) : w.heap.size ≤ gb194)); clear HB; have HB := n0_; have BK194 := n1_; have GW194 := n2_; have GE194 := n3_; clear n0_ n1_ n2_ n3_; clear hb hbox hg) | ((with_reducible refine gate_dst (N := 3) rfl ?_); refine box_event ?hg (N := 3) ?hd (cs := #[.int .i64 a1_0, .int .i64 a1_1, .int .i64 a1_2, .int .i64 a1_3, .int .i64 a1_4, .slice A1_5 l1_5.length c1_5]) (t := 76) ?hr ?_; (case hd => rfl); (case hg => rfl); (case hr => first | (go_simp; done) | (go_simp; rfl)); intro gb195 hg w25 hbox hb; have n0_ := Aside0.mk (blk_below (g := gb194) (o := .cells #[.int .i64 a0_0, .int .i64 a0_1, .int .i64 a0_2, .int .i64 a0_3, .int .i64 a0_4, .slice A0_5 l0_5.length c0_5] 76 (0, 0)) (by (with_reducible repeat (first | refine blk_drewN ?_ _ | refine blk_drew ?_ | refine blk_alloc ?_ _)); exact BK194.out) hb); have n1_ := Aside0.mk (below_step (by repeat (first | (with_reducible first | exact HB.out | apply below_alloc | apply pw_below_drewN | apply below_drew1 | refine below_set ?_ GE194.out) | exact HB.out)) hb); have n2_ := Aside0.mk (hbox); have n3_ := Aside0.mk ((by rw [hg]; exact (below_size (by repeat (first | (with_reducible first | exact HB.out | apply below_alloc | apply pw_below_drewN | apply below_drew1 | refine below_set ?_ GE194.out) | exact HB.out))) : w.heap.size ≤ gb195)); have n4_ := Aside0.mk ((by rw [hg]; exact (below_size (by repeat (first | (with_reducible first | exact HB.out | apply below_alloc | apply pw_below_drewN | apply below_drew1 | refine below_set ?_ GE194.out) | exact HB.out))) : w.heap.size ≤ gb195)); have n5_ := Aside0.mk ((by rw [hg]; exact Nat.ne_of_lt (blk_lt (g := gb194) (o := .cells #[.int .i64 a0_0, .int .i64 a0_1, .int .i64 a0_2, .int .i64 a0_3, .int .i64 a0_4, .slice A0_5 l0_5.length c0_5] 76 (0, 0)) (by (with_reducible repeat (first | refine blk_drewN ?_ _ | refine blk_drew ?_ | refine blk_alloc ?_ _)); exact BK194.out)) : gb194 ≠ gb195)); have n6_ := Aside0.mk ((by rw [hg]; exact Nat.ne_of_gt (blk_lt (g := gb194) (o := .cells #[.int .i64 a0_0, .int .i64 a0_1, .int .i64 a0_2, .int .i64 a0_3, .int .i64 a0_4, .slice A0_5 l0_5.length c0_5] 76 (0, 0)) (by (with_reducible repeat (first | refine blk_drewN ?_ _ | refine blk_drew ?_ | refine blk_alloc ?_ _)); exact BK194.out)) : gb195 ≠ gb194)); clear BK194; clear HB; have BK194 := n0_; have HB := n1_; have BK195 := n2_; have GW195 := n3_; have GE195 := n4_; have NB194_195 := n5_; have NB195_194 := n6_; clear n0_ n1_ n2_ n3_ n4_ n5_ n6_; clear hb hbox hg; have hnb26 := NB194_195.out; have hnc26 := NB195_194.out; have hcz27_0 : w25.cell? ⟨gb194, 0, none⟩ = some (.int .i64 a0_0) := (blk_cell BK194.out 0).trans rfl; have hcz27_1 : w25.cell? ⟨gb194, 1, none⟩ = some (.int .i64 a0_1) := (blk_cell BK194.out 1).trans rfl; have hcz27_2 : w25.cell? ⟨gb194, 2, none⟩ = some (.int .i64 a0_2) := (blk_cell BK194.out 2).trans rfl; have hcz27_3 : w25.cell? ⟨gb194, 3, none⟩ = some (.int .i64 a0_3) := (blk_cell BK194.out 3).trans rfl; have hcz27_4 : w25.cell? ⟨gb194, 4, none⟩ = some (.int .i64 a0_4) := (blk_cell BK194.out 4).trans rfl; have hcz27_5 : w25.cell? ⟨gb194, 5, none⟩ = some (.slice A0_5 l0_5.length c0_5) := (blk_cell BK194.out 5).trans rfl; have hfz27_0 := blk_frozen BK194.out 0; have hfz27_1 := blk_frozen BK194.out 1; have hfz27_2 := blk_frozen BK194.out 2; have hfz27_3 := blk_frozen BK194.out 3; have hfz27_4 := blk_frozen BK194.out 4; have hfz27_5 := blk_frozen BK194.out 5; have hcz28_0 : w25.cell? ⟨gb195, 0, none⟩ = some (.int .i64 a1_0) := (blk_cell BK195.out 0).trans rfl; have hcz28_1 : w25.cell? ⟨gb195, 1, none⟩ = some (.int .i64 a1_1) := (blk_cell BK195.out 1).trans rfl; have hcz28_2 : w25.cell? ⟨gb195, 2, none⟩ = some (.int .i64 a1_2) := (blk_cell BK195.out 2).trans rfl; have hcz28_3 : w25.cell? ⟨gb195, 3, none⟩ = some (.int .i64 a1_3) := (blk_cell BK195.out 3).trans rfl; have hcz28_4 : w25.cell? ⟨gb195, 4, none⟩ = some (.int .i64 a1_4) := (blk_cell BK195.out 4).trans rfl; have hcz28_5 : w25.cell? ⟨gb195, 5, none⟩ = some (.slice A1_5 l1_5.length c1_5) := (blk_cell BK195.out 5).trans rfl; have hfz28_0 := blk_frozen BK195.out 0; have hfz28_1 := blk_frozen BK195.out 1; have hfz28_2 := blk_frozen BK195.out 2; have hfz28_3 := blk_frozen BK195.out 3; have hfz28_4 := blk_frozen BK195.out 4; have hfz28_5 := blk_frozen BK195.out 5))
    go_ret; exact ⟨by first | rfl | (simp [errW_none, errW_some] <;> rfl) | (simp [*, errW_none, errW_some] <;> rfl), by repeat (first | (with_reducible first | exact HB.out | apply below_alloc | apply pw_below_drewN | apply below_drew1 | refine below_set ?_ GE194.out | refine below_set ?_ GE195.out) | exact HB.out)⟩
  ·rw [if_neg c4] at H
   have c4b0 : (a0_1 == a1_1) = false := beq_eq_false_iff_ne.mpr c4; have c4b1 : (a0_1 != a1_1) = true := bne_iff_ne.mpr c4; obtain rfl := Option.some.inj H
   go_enter Try.func42, Try.ntmps42
   go_wp2_with (first | ((with_reducible refine gate_dst (N := 2) rfl ?_); refine box_event ?hg (N := 2) ?hd (cs := #[.int .i64 a0_0, .int .i64 a0_1, .int .i64 a0_2, .int .i64 a0_3, .int .i64 a0_4, .slice A0_5 l0_5.length c0_5]) (t := 76) ?hr ?_; (case hd => rfl); (case hg => rfl); (case hr => first | (go_simp; done) | (go_simp; rfl)); intro gb194 hg w29 hbox hb; have n0_ := Aside0.mk (below_step (by repeat (first | (with_reducible first | exact HB.out | apply below_alloc | apply pw_below_drewN | apply below_drew1) | exact HB.out)) hb); have n1_ := Aside0.mk (hbox); have n2_ := Aside0.mk ((by rw [hg]; exact (below_size (by repeat (first | (with_reducible first | exact HB.out | apply below_alloc | apply pw_below_drewN | apply below_drew1) | exact HB.out))) : w.heap.size ≤ gb194)); have n3_ := Aside0.mk ((by rw [hg]; exact (below_size (by repeat (first | (with_reducible first | exact HB.out | apply below_alloc | apply pw_below_drewN | apply below_drew1) | exact HB.out))) : w.heap.size ≤ gb194)); clear HB; have HB := n0_; have BK194 := n1_; have GW194 := n2_; have GE194 := n3_; clear n0_ n1_ n2_ n3_; clear hb hbox hg) | ((with_reducible refine gate_dst (N := 3) rfl ?_); refine box_event ?hg (N := 3) ?hd (cs := #[.int .i64 a1_0, .int .i64 a1_1, .int .i64 a1_2, .int .i64 a1_3, .int .i64 a1_4, .slice A1_5 l1_5.length c1_5]) (t := 76) ?hr ?_; (case hd => rfl); (case hg => rfl); (case hr => first | (go_simp; done) | (go_simp; rfl)); intro gb195 hg w30 hbox hb; have n0_ := Aside0.mk (blk_below (g := gb194) (o := .cells #[.int .i64 a0_0, .int .i64 a0_1, .int .i64 a0_2, .int .i64 a0_3, .int .i64 a0_4, .slice A0_5 l0_5.length c0_5] 76 (0, 0)) (by (with_reducible repeat (first | refine blk_drewN ?_ _ | refine blk_drew ?_ | refine blk_alloc ?_ _)); exact BK194.out) hb); have n1_ := Aside0.mk (below_step (by repeat (first | (with_reducible first | exact HB.out | apply below_alloc | apply pw_below_drewN | apply below_drew1 | refine below_set ?_ GE194.out) | exact HB.out)) hb); have n2_ := Aside0.mk (hbox); have n3_ := Aside0.mk ((by rw [hg]; exact (below_size (by repeat (first | (with_reducible first | exact HB.out | apply below_alloc | apply pw_below_drewN | apply below_drew1 | refine below_set ?_ GE194.out) | exact HB.out))) : w.heap.size ≤ gb195)); have n4_ := Aside0.mk ((by rw [hg]; exact (below_size (by repeat (first | (with_reducible first | exact HB.out | apply below_alloc | apply pw_below_drewN | apply below_drew1 | refine below_set ?_ GE194.out) | exact HB.out))) : w.heap.size ≤ gb195)); have n5_ := Aside0.mk ((by rw [hg]; exact Nat.ne_of_lt (blk_lt (g := gb194) (o := .cells #[.int .i64 a0_0, .int .i64 a0_1, .int .i64 a0_2, .int .i64 a0_3, .int .i64 a0_4, .slice A0_5 l0_5.length c0_5] 76 (0, 0)) (by (with_reducible repeat (first | refine blk_drewN ?_ _ | refine blk_drew ?_ | refine blk_alloc ?_ _)); exact BK194.out)) : gb194 ≠ gb195)); have n6_ := Aside0.mk ((by rw [hg]; exact Nat.ne_of_gt (blk_lt (g := gb194) (o := .cells #[.int .i64 a0_0, .int .i64 a0_1, .int .i64 a0_2, .int .i64 a0_3, .int .i64 a0_4, .slice A0_5 l0_5.length c0_5] 76 (0, 0)) (by (with_reducible repeat (first | refine blk_drewN ?_ _ | refine blk_drew ?_ | refine blk_alloc ?_ _)); exact BK194.out)) : gb195 ≠ gb194)); clear BK194; clear HB; have BK194 := n0_; have HB := n1_; have BK195 := n2_; have GW195 := n3_; have GE195 := n4_; have NB194_195 := n5_; have NB195_194 := n6_; clear n0_ n1_ n2_ n3_ n4_ n5_ n6_; clear hb hbox hg; have hnb31 := NB194_195.out; have hnc31 := NB195_194.out; have hcz32_0 : w30.cell? ⟨gb194, 0, none⟩ = some (.int .i64 a0_0) := (blk_cell BK194.out 0).trans rfl; have hcz32_1 : w30.cell? ⟨gb194, 1, none⟩ = some (.int .i64 a0_1) := (blk_cell BK194.out 1).trans rfl; have hcz32_2 : w30.cell? ⟨gb194, 2, none⟩ = some (.int .i64 a0_2) := (blk_cell BK194.out 2).trans rfl; have hcz32_3 : w30.cell? ⟨gb194, 3, none⟩ = some (.int .i64 a0_3) := (blk_cell BK194.out 3).trans rfl; have hcz32_4 : w30.cell? ⟨gb194, 4, none⟩ = some (.int .i64 a0_4) := (blk_cell BK194.out 4).trans rfl; have hcz32_5 : w30.cell? ⟨gb194, 5, none⟩ = some (.slice A0_5 l0_5.length c0_5) := (blk_cell BK194.out 5).trans rfl; have hfz32_0 := blk_frozen BK194.out 0; have hfz32_1 := blk_frozen BK194.out 1; have hfz32_2 := blk_frozen BK194.out 2; have hfz32_3 := blk_frozen BK194.out 3; have hfz32_4 := blk_frozen BK194.out 4; have hfz32_5 := blk_frozen BK194.out 5; have hcz33_0 : w30.cell? ⟨gb195, 0, none⟩ = some (.int .i64 a1_0) := (blk_cell BK195.out 0).trans rfl; have hcz33_1 : w30.cell? ⟨gb195, 1, none⟩ = some (.int .i64 a1_1) := (blk_cell BK195.out 1).trans rfl; have hcz33_2 : w30.cell? ⟨gb195, 2, none⟩ = some (.int .i64 a1_2) := (blk_cell BK195.out 2).trans rfl; have hcz33_3 : w30.cell? ⟨gb195, 3, none⟩ = some (.int .i64 a1_3) := (blk_cell BK195.out 3).trans rfl; have hcz33_4 : w30.cell? ⟨gb195, 4, none⟩ = some (.int .i64 a1_4) := (blk_cell BK195.out 4).trans rfl; have hcz33_5 : w30.cell? ⟨gb195, 5, none⟩ = some (.slice A1_5 l1_5.length c1_5) := (blk_cell BK195.out 5).trans rfl; have hfz33_0 := blk_frozen BK195.out 0; have hfz33_1 := blk_frozen BK195.out 1; have hfz33_2 := blk_frozen BK195.out 2; have hfz33_3 := blk_frozen BK195.out 3; have hfz33_4 := blk_frozen BK195.out 4; have hfz33_5 := blk_frozen BK195.out 5))
   go_ret; exact ⟨by first | rfl | (simp [errW_none, errW_some] <;> rfl) | (simp [*, errW_none, errW_some] <;> rfl), by repeat (first | (with_reducible first | exact HB.out | apply below_alloc | apply pw_below_drewN | apply below_drew1 | refine below_set ?_ GE194.out | refine below_set ?_ GE195.out) | exact HB.out)⟩
 ·rw [if_neg c3] at H
  have c3b0 : (a0_0 == a1_0) = false := beq_eq_false_iff_ne.mpr c3; have c3b1 : (a0_0 != a1_0) = true := bne_iff_ne.mpr c3; obtain rfl := Option.some.inj H
  go_enter Try.func42, Try.ntmps42
  go_wp2_with (first | ((with_reducible refine gate_dst (N := 2) rfl ?_); refine box_event ?hg (N := 2) ?hd (cs := #[.int .i64 a0_0, .int .i64 a0_1, .int .i64 a0_2, .int .i64 a0_3, .int .i64 a0_4, .slice A0_5 l0_5.length c0_5]) (t := 76) ?hr ?_; (case hd => rfl); (case hg => rfl); (case hr => first | (go_simp; done) | (go_simp; rfl)); intro gb194 hg w34 hbox hb; have n0_ := Aside0.mk (below_step (by repeat (first | (with_reducible first | exact HB.out | apply below_alloc | apply pw_below_drewN | apply below_drew1) | exact HB.out)) hb); have n1_ := Aside0.mk (hbox); have n2_ := Aside0.mk ((by rw [hg]; exact (below_size (by repeat (first | (with_reducible first | exact HB.out | apply below_alloc | apply pw_below_drewN | apply below_drew1) | exact HB.out))) : w.heap.size ≤ gb194)); have n3_ := Aside0.mk ((by rw [hg]; exact (below_size (by repeat (first | (with_reducible first | exact HB.out | apply below_alloc | apply pw_below_drewN | apply below_drew1) | exact HB.out))) : w.heap.size ≤ gb194)); clear HB; have HB := n0_; have BK194 := n1_; have GW194 := n2_; have GE194 := n3_; clear n0_ n1_ n2_ n3_; clear hb hbox hg) | ((with_reducible refine gate_dst (N := 3) rfl ?_); refine box_event ?hg (N := 3) ?hd (cs := #[.int .i64 a1_0, .int .i64 a1_1, .int .i64 a1_2, .int .i64 a1_3, .int .i64 a1_4, .slice A1_5 l1_5.length c1_5]) (t := 76) ?hr ?_; (case hd => rfl); (case hg => rfl); (case hr => first | (go_simp; done) | (go_simp; rfl)); intro gb195 hg w35 hbox hb; have n0_ := Aside0.mk (blk_below (g := gb194) (o := .cells #[.int .i64 a0_0, .int .i64 a0_1, .int .i64 a0_2, .int .i64 a0_3, .int .i64 a0_4, .slice A0_5 l0_5.length c0_5] 76 (0, 0)) (by (with_reducible repeat (first | refine blk_drewN ?_ _ | refine blk_drew ?_ | refine blk_alloc ?_ _)); exact BK194.out) hb); have n1_ := Aside0.mk (below_step (by repeat (first | (with_reducible first | exact HB.out | apply below_alloc | apply pw_below_drewN | apply below_drew1 | refine below_set ?_ GE194.out) | exact HB.out)) hb); have n2_ := Aside0.mk (hbox); have n3_ := Aside0.mk ((by rw [hg]; exact (below_size (by repeat (first | (with_reducible first | exact HB.out | apply below_alloc | apply pw_below_drewN | apply below_drew1 | refine below_set ?_ GE194.out) | exact HB.out))) : w.heap.size ≤ gb195)); have n4_ := Aside0.mk ((by rw [hg]; exact (below_size (by repeat (first | (with_reducible first | exact HB.out | apply below_alloc | apply pw_below_drewN | apply below_drew1 | refine below_set ?_ GE194.out) | exact HB.out))) : w.heap.size ≤ gb195)); have n5_ := Aside0.mk ((by rw [hg]; exact Nat.ne_of_lt (blk_lt (g := gb194) (o := .cells #[.int .i64 a0_0, .int .i64 a0_1, .int .i64 a0_2, .int .i64 a0_3, .int .i64 a0_4, .slice A0_5 l0_5.length c0_5] 76 (0, 0)) (by (with_reducible repeat (first | refine blk_drewN ?_ _ | refine blk_drew ?_ | refine blk_alloc ?_ _)); exact BK194.out)) : gb194 ≠ gb195)); have n6_ := Aside0.mk ((by rw [hg]; exact Nat.ne_of_gt (blk_lt (g := gb194) (o := .cells #[.int .i64 a0_0, .int .i64 a0_1, .int .i64 a0_2, .int .i64 a0_3, .int .i64 a0_4, .slice A0_5 l0_5.length c0_5] 76 (0, 0)) (by (with_reducible repeat (first | refine blk_drewN ?_ _ | refine blk_drew ?_ | refine blk_alloc ?_ _)); exact BK194.out)) : gb195 ≠ gb194)); clear BK194; clear HB; have BK194 := n0_; have HB := n1_; have BK195 := n2_; have GW195 := n3_; have GE195 := n4_; have NB194_195 := n5_; have NB195_194 := n6_; clear n0_ n1_ n2_ n3_ n4_ n5_ n6_; clear hb hbox hg; have hnb36 := NB194_195.out; have hnc36 := NB195_194.out; have hcz37_0 : w35.cell? ⟨gb194, 0, none⟩ = some (.int .i64 a0_0) := (blk_cell BK194.out 0).trans rfl; have hcz37_1 : w35.cell? ⟨gb194, 1, none⟩ = some (.int .i64 a0_1) := (blk_cell BK194.out 1).trans rfl; have hcz37_2 : w35.cell? ⟨gb194, 2, none⟩ = some (.int .i64 a0_2) := (blk_cell BK194.out 2).trans rfl; have hcz37_3 : w35.cell? ⟨gb194, 3, none⟩ = some (.int .i64 a0_3) := (blk_cell BK194.out 3).trans rfl; have hcz37_4 : w35.cell? ⟨gb194, 4, none⟩ = some (.int .i64 a0_4) := (blk_cell BK194.out 4).trans rfl; have hcz37_5 : w35.cell? ⟨gb194, 5, none⟩ = some (.slice A0_5 l0_5.length c0_5) := (blk_cell BK194.out 5).trans rfl; have hfz37_0 := blk_frozen BK194.out 0; have hfz37_1 := blk_frozen BK194.out 1; have hfz37_2 := blk_frozen BK194.out 2; have hfz37_3 := blk_frozen BK194.out 3; have hfz37_4 := blk_frozen BK194.out 4; have hfz37_5 := blk_frozen BK194.out 5; have hcz38_0 : w35.cell? ⟨gb195, 0, none⟩ = some (.int .i64 a1_0) := (blk_cell BK195.out 0).trans rfl; have hcz38_1 : w35.cell? ⟨gb195, 1, none⟩ = some (.int .i64 a1_1) := (blk_cell BK195.out 1).trans rfl; have hcz38_2 : w35.cell? ⟨gb195, 2, none⟩ = some (.int .i64 a1_2) := (blk_cell BK195.out 2).trans rfl; have hcz38_3 : w35.cell? ⟨gb195, 3, none⟩ = some (.int .i64 a1_3) := (blk_cell BK195.out 3).trans rfl; have hcz38_4 : w35.cell? ⟨gb195, 4, none⟩ = some (.int .i64 a1_4) := (blk_cell BK195.out 4).trans rfl; have hcz38_5 : w35.cell? ⟨gb195, 5, none⟩ = some (.slice A1_5 l1_5.length c1_5) := (blk_cell BK195.out 5).trans rfl; have hfz38_0 := blk_frozen BK195.out 0; have hfz38_1 := blk_frozen BK195.out 1; have hfz38_2 := blk_frozen BK195.out 2; have hfz38_3 := blk_frozen BK195.out 3; have hfz38_4 := blk_frozen BK195.out 4; have hfz38_5 := blk_frozen BK195.out 5))
  go_ret; exact ⟨by first | rfl | (simp [errW_none, errW_some] <;> rfl) | (simp [*, errW_none, errW_some] <;> rfl), by repeat (first | (with_reducible first | exact HB.out | apply below_alloc | apply pw_below_drewN | apply below_drew1 | refine below_set ?_ GE194.out | refine below_set ?_ GE195.out) | exact HB.out)⟩
end Go.Proofs.Ytcgpemefmakjiaa.PX
namespace Go.Proofs.Ytcgpemefmakjiaa.PX
open Go.RowKit Go.Proofs.YtcgpemefmakjiaaW.PrintWords Go.Proofs.YtcgpemefmakjiaaW.PrintLast Go.Proofs.YtcgpemefmakjiaaW.PrintMore
attribute [local go_sem] max2_int min2_int max_two min_two max_three min_three max_four min_four   -- for this text's walks alone
set_option linter.unusedVariables false
set_option linter.unusedSimpArgs false
def dioramaref36_SameAll.l0 : Nat → List (S76) → List (S76) → Int → Option (Bool)
 | 0, _, _, _ => none
 | k + 1, x0, x1, x5 => if x5 < (x0.length : Int) then (if 0 ≤ x5 then (if x5 < (x1.length : Int) then ((dioramaref36_Same.f k ((rd_T76 x0 x5).f0) ((rd_T76 x0 x5).f1) ((rd_T76 x0 x5).f2) ((rd_T76 x0 x5).f3) ((rd_T76 x0 x5).f4) ((rd_T76 x0 x5).f5) ((rd_T76 x1 x5).f0) ((rd_T76 x1 x5).f1) ((rd_T76 x1 x5).f2) ((rd_T76 x1 x5).f3) ((rd_T76 x1 x5).f4) ((rd_T76 x1 x5).f5)).bind fun t199 => (if t199 = true then (dioramaref36_SameAll.l0 k x0 x1 (wrap64 (x5 + 1))) else (some false))) else (none)) else (none)) else (some true)
def dioramaref36_SameAll.f (k : Nat) (l0 : List (S76)) (l1 : List (S76)) : Option (Bool) := if (l0.length : Int) = (l1.length : Int) then (dioramaref36_SameAll.l0 k l0 l1 0) else (some false)
def dioramaref36_SameAll.T6 : Bool × List (List Nat × List Nat) := (true, [([], []), ([], []), ([0, 1], [0, 1]), ([2], [2]), ([], []), ([], []), ([4, 5], [4, 5]), ([6], [6]), ([3, 7], [3, 7]), ([8], [8])])
def dioramaref36_SameAll.B6 : List Nat := [0, 0, 3, 7, 0, 0, 48, 112, 255, 511]
theorem dioramaref36_SameAll.tab6 : rtab .any (opsOf Try.f16 6) = dioramaref36_SameAll.T6 := by kernel_rfl
theorem dioramaref36_SameAll.bits6 : waitsOk dioramaref36_SameAll.T6.2 dioramaref36_SameAll.B6 = true := by kernel_rfl
set_option maxHeartbeats 8000000 in
set_option maxRecDepth 100000 in
theorem dioramaref36_SameAll.calls (k : Nat) (A0 : Option Addr) (c0 : Nat) (l0 : List (S76)) (A1 : Option Addr) (c1 : Nat) (l1 : List (S76)) (r : Bool) (w : World) (hr0 : Kd.C k76 w A0 l0.length l0) (hc0 : l0.length ≤ c0) (hr1 : Kd.C k76 w A1 l1.length l1) (hc1 : l1.length ≤ c1) (h : dioramaref36_SameAll.f k l0 l1 = some r) :
  Calls Try.prog 16 #[.slice A0 l0.length c0, .slice A1 l1.length c1] w fun e w' => e = .returned (.bool r) ∧ Below w.heap.size w w' := by
 have hu76 := Try.underlying76; have HR0 := Aside0.mk hr0; have HC0 := Aside0.mk hc0; clear hr0 hc0; have HR1 := Aside0.mk hr1; have HC1 := Aside0.mk hc1; clear hr1 hc1; have HB := Aside0.mk (Below.refl w.heap.size w); have H : (if (l0.length : Int) = (l1.length : Int) then (dioramaref36_SameAll.l0 k l0 l1 0) else (some false)) = some r := h; clear h
 by_cases c3 : (l0.length : Int) = (l1.length : Int)
 ·rw [if_pos c3] at H
  have c3b0 : ((l0.length : Int) == (l1.length : Int)) = true := beq_iff_eq.mpr c3; have c3b1 : ((l0.length : Int) != (l1.length : Int)) = false := bne_eq_false_iff_eq.mpr c3
  have c3b2 : (l0.length == l1.length) = true := by first | simpa using c3 | (simp at c3 ⊢; omega)
  clear c3; have H' := Aside0.mk H; clear H
  go_enter Try.func16, Try.ntmps16
  go_wp2
  go_loopg [5] k (fun kq v5 w' => ∃ (x5_1 : Int), v5 = .int .i64 x5_1 ∧ Aside0 (dioramaref36_SameAll.l0 kq l0 l1 x5_1 = some r) ∧ Aside0 (kq ≤ k) ∧ Aside0 (Below w.heap.size w w'))
  case atStart => exact ⟨(0), (by first | rfl | (simp; done) | (simp [*]; done)), H', ⟨Nat.le_refl _⟩, ⟨by repeat (first | (with_reducible first | exact HB.out | apply below_alloc | apply pw_below_drewN | apply below_drew1) | exact HB.out)⟩⟩
  case round =>
   clear H'
   try clear c1
   try clear p2
   try clear c3
   try clear c3b0
   try clear c3b1
   try clear c3b2
   obtain ⟨x5_1, rfl, HA, HK1, HB⟩ := hrel
   cases gk with
   | zero => exact absurd HA.out (by simp [dioramaref36_SameAll.l0])
   | succ k1 =>
    have H := HA.out; clear HA; simp only [dioramaref36_SameAll.l0] at H
    by_cases c4 : x5_1 < (l0.length : Int)
    ·rw [if_pos c4] at H
     have c4b0 : decide (x5_1 < (l0.length : Int)) = true := decide_eq_true c4; clear c4
     by_cases c5 : 0 ≤ x5_1
     ·rw [if_pos c5] at H
      have c5b0 : decide (0 ≤ x5_1) = true := decide_eq_true c5; clear c5
      by_cases c6 : x5_1 < (l1.length : Int)
      ·rw [if_pos c6] at H
       have c6b0 : decide (x5_1 < (l1.length : Int)) = true := decide_eq_true c6; clear c6; replace H := Option.bind_eq_some_iff.mp H; obtain ⟨t199, A70, H⟩ := H; replace H : (if t199 = true then (dioramaref36_SameAll.l0 k1 l0 l1 (wrap64 (x5_1 + 1))) else (some false)) = some r := H; have A7 := Aside0.mk A70; clear A70
       by_cases c8 : t199 = true
       ·subst c8
        have H1 : (dioramaref36_SameAll.l0 k1 l0 l1 (wrap64 (x5_1 + 1))) = some r := by rw [if_pos rfl] at H; exact H
        clear H; have H := H1; clear H1; have H' := Aside0.mk H; clear H
        try go_wp2
        have n0_ := Aside0.mk (below_drew1 HB.out); clear HB; have HB := n0_; clear n0_; have p197 : 0 ≤ (x5_1 : Int) := of_decide_eq_true (by first | (with_reducible assumption) | assumption); have q197 : x5_1 < (l0.length : Int) := of_decide_eq_true (by first | (with_reducible assumption) | assumption); obtain ⟨ad197, A197_5, c197_5, e197, hx197_0, hx197_1, hx197_2, hx197_3, hx197_4, hx197_5, hl197_5, hi197_5⟩ := at_T76 HR0.out x5_1 p197 q197; have hw197_5 := hx197_5; have hw197_4 := hx197_4; have hw197_3 := hx197_3; have hw197_2 := hx197_2; have hw197_1 := hx197_1; have hw197_0 := hx197_0
        cases e197
        replace hx197_0 := (HB.out.cell (World.block_lt_of_cell? w _ hx197_0)).trans hx197_0; replace hx197_1 := (HB.out.cell (World.block_lt_of_cell? w _ hx197_1)).trans hx197_1; replace hx197_2 := (HB.out.cell (World.block_lt_of_cell? w _ hx197_2)).trans hx197_2; replace hx197_3 := (HB.out.cell (World.block_lt_of_cell? w _ hx197_3)).trans hx197_3; replace hx197_4 := (HB.out.cell (World.block_lt_of_cell? w _ hx197_4)).trans hx197_4; replace hx197_5 := (HB.out.cell (World.block_lt_of_cell? w _ hx197_5)).trans hx197_5; have HR197_5 := Aside0.mk hi197_5; have HC197_5 := Aside0.mk hl197_5; clear hi197_5 hl197_5; replace p197 := eq_true p197; replace q197 := eq_true q197; have p198 : 0 ≤ (x5_1 : Int) := of_decide_eq_true (by first | (with_reducible assumption) | assumption); have q198 : x5_1 < (l1.length : Int) := of_decide_eq_true (by first | (with_reducible assumption) | assumption); obtain ⟨ad198, A198_5, c198_5, e198, hx198_0, hx198_1, hx198_2, hx198_3, hx198_4, hx198_5, hl198_5, hi198_5⟩ := at_T76 HR1.out x5_1 p198 q198; have hw198_5 := hx198_5; have hw198_4 := hx198_4; have hw198_3 := hx198_3; have hw198_2 := hx198_2; have hw198_1 := hx198_1; have hw198_0 := hx198_0
        cases e198
        replace hx198_0 := (HB.out.cell (World.block_lt_of_cell? w _ hx198_0)).trans hx198_0; replace hx198_1 := (HB.out.cell (World.block_lt_of_cell? w _ hx198_1)).trans hx198_1; replace hx198_2 := (HB.out.cell (World.block_lt_of_cell? w _ hx198_2)).trans hx198_2; replace hx198_3 := (HB.out.cell (World.block_lt_of_cell? w _ hx198_3)).trans hx198_3; replace hx198_4 := (HB.out.cell (World.block_lt_of_cell? w _ hx198_4)).trans hx198_4; replace hx198_5 := (HB.out.cell (World.block_lt_of_cell? w _ hx198_5)).trans hx198_5; have HR198_5 := Aside0.mk hi198_5; have HC198_5 := Aside0.mk hl198_5; clear hi198_5 hl198_5; replace p198 := eq_true p198; replace q198 := eq_true q198; refine start_ (n := 10) (S := fun w' => w'.cell? (ad197.add ((x5_1).toNat * 6)) = some (.int .i64 ((rd_T76 l0 x5_1).f0)) ∧ w'.cell? ⟨(ad197.add ((x5_1).toNat * 6)).block, (ad197.add ((x5_1).toNat * 6)).off + 1, none⟩ = some (.int .i64 ((rd_T76 l0 x5_1).f1)) ∧ w'.cell? ⟨(ad197.add ((x5_1).toNat * 6)).block, (ad197.add ((x5_1).toNat * 6)).off + 2, none⟩ = some (.int .i64 ((rd_T76 l0 x5_1).f2)) ∧ w'.cell? ⟨(ad197.add ((x5_1).toNat * 6)).block, (ad197.add ((x5_1).toNat * 6)).off + 3, none⟩ = some (.int .i64 ((rd_T76 l0 x5_1).f3)) ∧ w'.cell? ⟨(ad197.add ((x5_1).toNat * 6)).block, (ad197.add ((x5_1).toNat * 6)).off + 4, none⟩ = some (.int .i64 ((rd_T76 l0 x5_1).f4)) ∧ w'.cell? ⟨(ad197.add ((x5_1).toNat * 6)).block, (ad197.add ((x5_1).toNat * 6)).off + 5, none⟩ = some (.slice A197_5 ((rd_T76 l0 x5_1).f5).length c197_5) ∧ w'.cell? (ad198.add ((x5_1).toNat * 6)) = some (.int .i64 ((rd_T76 l1 x5_1).f0)) ∧ w'.cell? ⟨(ad198.add ((x5_1).toNat * 6)).block, (ad198.add ((x5_1).toNat * 6)).off + 1, none⟩ = some (.int .i64 ((rd_T76 l1 x5_1).f1)) ∧ w'.cell? ⟨(ad198.add ((x5_1).toNat * 6)).block, (ad198.add ((x5_1).toNat * 6)).off + 2, none⟩ = some (.int .i64 ((rd_T76 l1 x5_1).f2)) ∧ w'.cell? ⟨(ad198.add ((x5_1).toNat * 6)).block, (ad198.add ((x5_1).toNat * 6)).off + 3, none⟩ = some (.int .i64 ((rd_T76 l1 x5_1).f3)) ∧ w'.cell? ⟨(ad198.add ((x5_1).toNat * 6)).block, (ad198.add ((x5_1).toNat * 6)).off + 4, none⟩ = some (.int .i64 ((rd_T76 l1 x5_1).f4)) ∧ w'.cell? ⟨(ad198.add ((x5_1).toNat * 6)).block, (ad198.add ((x5_1).toNat * 6)).off + 5, none⟩ = some (.slice A198_5 ((rd_T76 l1 x5_1).f5).length c198_5)) (ds := []) #[O,O,O,O,O,O,O,O,O,O] (by kernel_rfl) rfl rfl ⟨((HB.out.cell (World.block_lt_of_cell? w _ hw197_0)).trans hw197_0), ((HB.out.cell (World.block_lt_of_cell? w _ hw197_1)).trans hw197_1), ((HB.out.cell (World.block_lt_of_cell? w _ hw197_2)).trans hw197_2), ((HB.out.cell (World.block_lt_of_cell? w _ hw197_3)).trans hw197_3), ((HB.out.cell (World.block_lt_of_cell? w _ hw197_4)).trans hw197_4), ((HB.out.cell (World.block_lt_of_cell? w _ hw197_5)).trans hw197_5), ((HB.out.cell (World.block_lt_of_cell? w _ hw198_0)).trans hw198_0), ((HB.out.cell (World.block_lt_of_cell? w _ hw198_1)).trans hw198_1), ((HB.out.cell (World.block_lt_of_cell? w _ hw198_2)).trans hw198_2), ((HB.out.cell (World.block_lt_of_cell? w _ hw198_3)).trans hw198_3), ((HB.out.cell (World.block_lt_of_cell? w _ hw198_4)).trans hw198_4), ((HB.out.cell (World.block_lt_of_cell? w _ hw198_5)).trans hw198_5)⟩ (fun hHeld => ?_); refine with_tabW dioramaref36_SameAll.tab6 dioramaref36_SameAll.bits6 (fun HT_ HW_ => ?_)
        generalize wr.drew = w9 at HB HR197_5 HR198_5 hx197_0 hx197_1 hx197_2 hx197_3 hx197_4 hx197_5 hx198_0 hx198_1 hx198_2 hx198_3 hx198_4 hx198_5 hHeld ⊢; refine pure_ (i := 0) (N := some 17) (v := ?_) (a' := ?_) #[I,O,O,O,O,O,O,O,O,O] rfl rfl (any_of HT_.out (by kernel_rfl)) (fun _ _ _ h => h) (Or.inl ⟨by rfl, ?_⟩) ?_ ?_; rotate_left; (· intro w'; go_simp; with_reducible rfl); rotate_left; (· simp only [Act.put, sA_, sB_, sC_, i64_w, i32_w]; rfl); refine pure_ (i := 1) (N := some 18) (v := ?_) (a' := ?_) #[I,I,O,O,O,O,O,O,O,O] rfl rfl (any_of HT_.out (by kernel_rfl)) (fun _ _ _ h => h) (Or.inl ⟨by rfl, ?_⟩) ?_ ?_; rotate_left; (· intro w'; go_simp; with_reducible rfl); rotate_left; (· simp only [Act.put, sA_, sB_, sC_, i64_w, i32_w]; rfl); refine pure_ (i := 2) (N := some 19) (v := ?_) (a' := ?_) #[I,I,I,O,O,O,O,O,O,O] rfl rfl (any_of HT_.out (by kernel_rfl)) (fun _ _ _ h => h) (Or.inl ⟨by rfl, ?_⟩) ?_ ?_; rotate_left; (· intro w'; go_simp; with_reducible rfl); rotate_left; (· simp only [Act.put, sA_, sB_, sC_, i64_w, i32_w]; rfl); refine pure_ (i := 4) (N := some 21) (v := ?_) (a' := ?_) #[I,I,I,O,I,O,O,O,O,O] rfl rfl (any_of HT_.out (by kernel_rfl)) (fun _ _ _ h => h) (Or.inl ⟨by rfl, ?_⟩) ?_ ?_; rotate_left; (· intro w'; go_simp; with_reducible rfl); rotate_left; (· simp only [Act.put, sA_, sB_, sC_, i64_w, i32_w]; rfl); refine pure_ (i := 5) (N := some 22) (v := ?_) (a' := ?_) #[I,I,I,O,I,I,O,O,O,O] rfl rfl (any_of HT_.out (by kernel_rfl)) (fun _ _ _ h => h) (Or.inl ⟨by rfl, ?_⟩) ?_ ?_; rotate_left; (· intro w'; go_simp; with_reducible rfl); rotate_left; (· simp only [Act.put, sA_, sB_, sC_, i64_w, i32_w]; rfl); refine pure_ (i := 6) (N := some 23) (v := ?_) (a' := ?_) #[I,I,I,O,I,I,I,O,O,O] rfl rfl (any_of HT_.out (by kernel_rfl)) (fun _ _ _ h => h) (Or.inl ⟨by rfl, ?_⟩) ?_ ?_; rotate_left; (· intro w'; go_simp; with_reducible rfl); rotate_left; (· simp only [Act.put, sA_, sB_, sC_, i64_w, i32_w]; rfl); refine take_ (i := 3) (N := some 20) (v := ?_) (a' := ?_) #[I,I,I,I,I,I,I,O,O,O] rfl rfl (take_ofW HT_.out HW_.out (by kernel_rfl)) (fun _ _ _ h => h) (Or.inl ⟨by rfl, ?_⟩) hHeld ?_ ?_; rotate_left; (· rintro w' ⟨s0, s1, s2, s3, s4, s5, s6, s7, s8, s9, s10, s11⟩; go_simp; with_reducible rfl); rotate_left; (· simp only [Act.put, sA_, sB_, sC_, i64_w, i32_w]; rfl); refine take_ (i := 7) (N := some 24) (v := ?_) (a' := ?_) #[I,I,I,I,I,I,I,I,O,O] rfl rfl (take_ofW HT_.out HW_.out (by kernel_rfl)) (fun _ _ _ h => h) (Or.inl ⟨by rfl, ?_⟩) hHeld ?_ ?_
        rotate_left; (· rintro w' ⟨s0, s1, s2, s3, s4, s5, s6, s7, s8, s9, s10, s11⟩; go_simp; with_reducible rfl); rotate_left; (· simp only [Act.put, sA_, sB_, sC_, i64_w, i32_w]; rfl); refine one_ (i := 8) (N := some 25) #[I,I,I,I,I,I,I,I,I,O] rfl rfl (one_of HT_.out (by kernel_rfl)) (by decide) (fun K hK => ?_); refine goes_ Try.func42 (by kernel_rfl) rfl #[.agg #[.int .i64 ((rd_T76 l0 x5_1).f0), .int .i64 ((rd_T76 l0 x5_1).f1), .int .i64 ((rd_T76 l0 x5_1).f2), .int .i64 ((rd_T76 l0 x5_1).f3), .int .i64 ((rd_T76 l0 x5_1).f4), .slice A197_5 ((rd_T76 l0 x5_1).f5).length c197_5], .agg #[.int .i64 ((rd_T76 l1 x5_1).f0), .int .i64 ((rd_T76 l1 x5_1).f1), .int .i64 ((rd_T76 l1 x5_1).f2), .int .i64 ((rd_T76 l1 x5_1).f3), .int .i64 ((rd_T76 l1 x5_1).f4), .slice A198_5 ((rd_T76 l1 x5_1).f5).length c198_5]] (by rfl) rfl rfl (by (try simp only [List.map_toArray, List.map_cons, List.map_nil]); first | done | rfl | (simp only [List.length_drop, List.length_take]; rfl)) ?_
        with_reducible refine (dioramaref36_Same.calls k1 ((rd_T76 l0 x5_1).f0) ((rd_T76 l0 x5_1).f1) ((rd_T76 l0 x5_1).f2) ((rd_T76 l0 x5_1).f3) ((rd_T76 l0 x5_1).f4) _ _ ((rd_T76 l0 x5_1).f5) ((rd_T76 l1 x5_1).f0) ((rd_T76 l1 x5_1).f1) ((rd_T76 l1 x5_1).f2) ((rd_T76 l1 x5_1).f3) ((rd_T76 l1 x5_1).f4) _ _ ((rd_T76 l1 x5_1).f5) true _ ?side1 ?side2 ?side3 ?side4 A7.out).mono ?_
        (case side1 => repeat (first | exact (Kd.C_below HR197_5.out HB.out) | (with_reducible refine Kd.C_alloc ?_ _) | (with_reducible refine Kd.C_drewN ?_ _) | (with_reducible refine Kd.C_drew ?_)))
        (case side2 => exact HC197_5.out)
        (case side3 => repeat (first | exact (Kd.C_below HR198_5.out HB.out) | (with_reducible refine Kd.C_alloc ?_ _) | (with_reducible refine Kd.C_drewN ?_ _) | (with_reducible refine Kd.C_drew ?_)))
        (case side4 => exact HC198_5.out)
        rintro e w10 ⟨rfl, hb⟩; refine ⟨_, rfl, ?_⟩; have n0_ := Aside0.mk (below_step (by repeat (first | (with_reducible first | exact HB.out | apply below_alloc | apply pw_below_drewN | apply below_drew1) | exact HB.out)) hb); clear HB; have HB := n0_; clear n0_
        (try clear hb)
        (try clear hb2)
        (try clear hk)
        (try clear hi)
        refine hK.out _ _ ⟨((HB.out.cell (World.block_lt_of_cell? w _ hw197_0)).trans hw197_0), ((HB.out.cell (World.block_lt_of_cell? w _ hw197_1)).trans hw197_1), ((HB.out.cell (World.block_lt_of_cell? w _ hw197_2)).trans hw197_2), ((HB.out.cell (World.block_lt_of_cell? w _ hw197_3)).trans hw197_3), ((HB.out.cell (World.block_lt_of_cell? w _ hw197_4)).trans hw197_4), ((HB.out.cell (World.block_lt_of_cell? w _ hw197_5)).trans hw197_5), ((HB.out.cell (World.block_lt_of_cell? w _ hw198_0)).trans hw198_0), ((HB.out.cell (World.block_lt_of_cell? w _ hw198_1)).trans hw198_1), ((HB.out.cell (World.block_lt_of_cell? w _ hw198_2)).trans hw198_2), ((HB.out.cell (World.block_lt_of_cell? w _ hw198_3)).trans hw198_3), ((HB.out.cell (World.block_lt_of_cell? w _ hw198_4)).trans hw198_4), ((HB.out.cell (World.block_lt_of_cell? w _ hw198_5)).trans hw198_5)⟩ (fun hHeld => ?_); clear hK K; refine norm_ (a' := ?_) ?_ ?_; rotate_left
        ·show Act.put _ (some 25) _ = _
         simp only [Act.put, sA_, sB_, sC_, i64_w, i32_w]; rfl
        refine pure_ (i := 9) (N := some 26) (v := ?_) (a' := ?_) #[I,I,I,I,I,I,I,I,I,I] rfl rfl (any_of HT_.out (by kernel_rfl)) (fun _ _ _ h => h) (Or.inl ⟨by rfl, ?_⟩) ?_ ?_; rotate_left; (· intro w'; go_simp; with_reducible rfl); rotate_left; (· simp only [Act.put, sA_, sB_, sC_, i64_w, i32_w]; rfl); refine done_ (done_of HT_.out (by kernel_rfl)) ?_
        try go_wp2
        go_roundg k1
        case measure => have := HK1.out; omega
        case rel => exact ⟨(wrap64 (x5_1 + 1)), (by first | rfl | (simp; done) | (simp [*]; done)), H', ⟨by have := HK1.out; omega⟩, ⟨by repeat (first | (with_reducible first | exact HB.out | apply below_alloc | apply pw_below_drewN | apply below_drew1) | exact HB.out)⟩⟩
       ·replace c8 := Bool.eq_false_iff.mpr c8
        subst c8
        have H1 : (some false) = some r := by rw [if_neg (show ¬ (false = true) by decide)] at H; exact H
        clear H; have H := H1; clear H1; obtain rfl := Option.some.inj H
        try go_wp2
        have n0_ := Aside0.mk (below_drew1 HB.out); clear HB; have HB := n0_; clear n0_; have p197 : 0 ≤ (x5_1 : Int) := of_decide_eq_true (by first | (with_reducible assumption) | assumption); have q197 : x5_1 < (l0.length : Int) := of_decide_eq_true (by first | (with_reducible assumption) | assumption); obtain ⟨ad197, A197_5, c197_5, e197, hx197_0, hx197_1, hx197_2, hx197_3, hx197_4, hx197_5, hl197_5, hi197_5⟩ := at_T76 HR0.out x5_1 p197 q197; have hw197_5 := hx197_5; have hw197_4 := hx197_4; have hw197_3 := hx197_3; have hw197_2 := hx197_2; have hw197_1 := hx197_1; have hw197_0 := hx197_0
        cases e197
        replace hx197_0 := (HB.out.cell (World.block_lt_of_cell? w _ hx197_0)).trans hx197_0; replace hx197_1 := (HB.out.cell (World.block_lt_of_cell? w _ hx197_1)).trans hx197_1; replace hx197_2 := (HB.out.cell (World.block_lt_of_cell? w _ hx197_2)).trans hx197_2; replace hx197_3 := (HB.out.cell (World.block_lt_of_cell? w _ hx197_3)).trans hx197_3; replace hx197_4 := (HB.out.cell (World.block_lt_of_cell? w _ hx197_4)).trans hx197_4; replace hx197_5 := (HB.out.cell (World.block_lt_of_cell? w _ hx197_5)).trans hx197_5; have HR197_5 := Aside0.mk hi197_5; have HC197_5 := Aside0.mk hl197_5; clear hi197_5 hl197_5; replace p197 := eq_true p197; replace q197 := eq_true q197; have p198 : 0 ≤ (x5_1 : Int) := of_decide_eq_true (by first | (with_reducible assumption) | assumption); have q198 : x5_1 < (l1.length : Int) := of_decide_eq_true (by first | (with_reducible assumption) | assumption); obtain ⟨ad198, A198_5, c198_5, e198, hx198_0, hx198_1, hx198_2, hx198_3, hx198_4, hx198_5, hl198_5, hi198_5⟩ := at_T76 HR1.out x5_1 p198 q198; have hw198_5 := hx198_5; have hw198_4 := hx198_4; have hw198_3 := hx198_3; have hw198_2 := hx198_2; have hw198_1 := hx198_1; have hw198_0 := hx198_0
        cases e198
        replace hx198_0 := (HB.out.cell (World.block_lt_of_cell? w _ hx198_0)).trans hx198_0; replace hx198_1 := (HB.out.cell (World.block_lt_of_cell? w _ hx198_1)).trans hx198_1; replace hx198_2 := (HB.out.cell (World.block_lt_of_cell? w _ hx198_2)).trans hx198_2; replace hx198_3 := (HB.out.cell (World.block_lt_of_cell? w _ hx198_3)).trans hx198_3; replace hx198_4 := (HB.out.cell (World.block_lt_of_cell? w _ hx198_4)).trans hx198_4; replace hx198_5 := (HB.out.cell (World.block_lt_of_cell? w _ hx198_5)).trans hx198_5; have HR198_5 := Aside0.mk hi198_5; have HC198_5 := Aside0.mk hl198_5; clear hi198_5 hl198_5; replace p198 := eq_true p198; replace q198 := eq_true q198; refine start_ (n := 10) (S := fun w' => w'.cell? (ad197.add ((x5_1).toNat * 6)) = some (.int .i64 ((rd_T76 l0 x5_1).f0)) ∧ w'.cell? ⟨(ad197.add ((x5_1).toNat * 6)).block, (ad197.add ((x5_1).toNat * 6)).off + 1, none⟩ = some (.int .i64 ((rd_T76 l0 x5_1).f1)) ∧ w'.cell? ⟨(ad197.add ((x5_1).toNat * 6)).block, (ad197.add ((x5_1).toNat * 6)).off + 2, none⟩ = some (.int .i64 ((rd_T76 l0 x5_1).f2)) ∧ w'.cell? ⟨(ad197.add ((x5_1).toNat * 6)).block, (ad197.add ((x5_1).toNat * 6)).off + 3, none⟩ = some (.int .i64 ((rd_T76 l0 x5_1).f3)) ∧ w'.cell? ⟨(ad197.add ((x5_1).toNat * 6)).block, (ad197.add ((x5_1).toNat * 6)).off + 4, none⟩ = some (.int .i64 ((rd_T76 l0 x5_1).f4)) ∧ w'.cell? ⟨(ad197.add ((x5_1).toNat * 6)).block, (ad197.add ((x5_1).toNat * 6)).off + 5, none⟩ = some (.slice A197_5 ((rd_T76 l0 x5_1).f5).length c197_5) ∧ w'.cell? (ad198.add ((x5_1).toNat * 6)) = some (.int .i64 ((rd_T76 l1 x5_1).f0)) ∧ w'.cell? ⟨(ad198.add ((x5_1).toNat * 6)).block, (ad198.add ((x5_1).toNat * 6)).off + 1, none⟩ = some (.int .i64 ((rd_T76 l1 x5_1).f1)) ∧ w'.cell? ⟨(ad198.add ((x5_1).toNat * 6)).block, (ad198.add ((x5_1).toNat * 6)).off + 2, none⟩ = some (.int .i64 ((rd_T76 l1 x5_1).f2)) ∧ w'.cell? ⟨(ad198.add ((x5_1).toNat * 6)).block, (ad198.add ((x5_1).toNat * 6)).off + 3, none⟩ = some (.int .i64 ((rd_T76 l1 x5_1).f3)) ∧ w'.cell? ⟨(ad198.add ((x5_1).toNat * 6)).block, (ad198.add ((x5_1).toNat * 6)).off + 4, none⟩ = some (.int .i64 ((rd_T76 l1 x5_1).f4)) ∧ w'.cell? ⟨(ad198.add ((x5_1).toNat * 6)).block, (ad198.add ((x5_1).toNat * 6)).off + 5, none⟩ = some (.slice A198_5 ((rd_T76 l1 x5_1).f5).length c198_5)) (ds := []) #[O,O,O,O,O,O,O,O,O,O] (by kernel_rfl) rfl rfl ⟨((HB.out.cell (World.block_lt_of_cell? w _ hw197_0)).trans hw197_0), ((HB.out.cell (World.block_lt_of_cell? w _ hw197_1)).trans hw197_1), ((HB.out.cell (World.block_lt_of_cell? w _ hw197_2)).trans hw197_2), ((HB.out.cell (World.block_lt_of_cell? w _ hw197_3)).trans hw197_3), ((HB.out.cell (World.block_lt_of_cell? w _ hw197_4)).trans hw197_4), ((HB.out.cell (World.block_lt_of_cell? w _ hw197_5)).trans hw197_5), ((HB.out.cell (World.block_lt_of_cell? w _ hw198_0)).trans hw198_0), ((HB.out.cell (World.block_lt_of_cell? w _ hw198_1)).trans hw198_1), ((HB.out.cell (World.block_lt_of_cell? w _ hw198_2)).trans hw198_2), ((HB.out.cell (World.block_lt_of_cell? w _ hw198_3)).trans hw198_3), ((HB.out.cell (World.block_lt_of_cell? w _ hw198_4)).trans hw198_4), ((HB.out.cell (World.block_lt_of_cell? w _ hw198_5)).trans hw198_5)⟩ (fun hHeld => ?_); refine with_tabW dioramaref36_SameAll.tab6 dioramaref36_SameAll.bits6 (fun HT_ HW_ => ?_)
        generalize wr.drew = w11 at HB HR197_5 HR198_5 hx197_0 hx197_1 hx197_2 hx197_3 hx197_4 hx197_5 hx198_0 hx198_1 hx198_2 hx198_3 hx198_4 hx198_5 hHeld ⊢; refine pure_ (i := 0) (N := some 17) (v := ?_) (a' := ?_) #[I,O,O,O,O,O,O,O,O,O] rfl rfl (any_of HT_.out (by kernel_rfl)) (fun _ _ _ h => h) (Or.inl ⟨by rfl, ?_⟩) ?_ ?_; rotate_left; (· intro w'; go_simp; with_reducible rfl); rotate_left; (· simp only [Act.put, sA_, sB_, sC_, i64_w, i32_w]; rfl); refine pure_ (i := 1) (N := some 18) (v := ?_) (a' := ?_) #[I,I,O,O,O,O,O,O,O,O] rfl rfl (any_of HT_.out (by kernel_rfl)) (fun _ _ _ h => h) (Or.inl ⟨by rfl, ?_⟩) ?_ ?_; rotate_left; (· intro w'; go_simp; with_reducible rfl); rotate_left; (· simp only [Act.put, sA_, sB_, sC_, i64_w, i32_w]; rfl); refine pure_ (i := 2) (N := some 19) (v := ?_) (a' := ?_) #[I,I,I,O,O,O,O,O,O,O] rfl rfl (any_of HT_.out (by kernel_rfl)) (fun _ _ _ h => h) (Or.inl ⟨by rfl, ?_⟩) ?_ ?_; rotate_left; (· intro w'; go_simp; with_reducible rfl); rotate_left; (· simp only [Act.put, sA_, sB_, sC_, i64_w, i32_w]; rfl); refine pure_ (i := 4) (N := some 21) (v := ?_) (a' := ?_) #[I,I,I,O,I,O,O,O,O,O] rfl rfl (any_of HT_.out (by kernel_rfl)) (fun _ _ _ h => h) (Or.inl ⟨by rfl, ?_⟩) ?_ ?_; rotate_left; (· intro w'; go_simp; with_reducible rfl); rotate_left; (· simp only [Act.put, sA_, sB_, sC_, i64_w, i32_w]; rfl); refine pure_ (i := 5) (N := some 22) (v := ?_) (a' := ?_) #[I,I,I,O,I,I,O,O,O,O] rfl rfl (any_of HT_.out (by kernel_rfl)) (fun _ _ _ h => h) (Or.inl ⟨by rfl, ?_⟩) ?_ ?_; rotate_left; (· intro w'; go_simp; with_reducible rfl); rotate_left; (· simp only [Act.put, sA_, sB_, sC_, i64_w, i32_w]; rfl); refine pure_ (i := 6) (N := some 23) (v := ?_) (a' := ?_) #[I,I,I,O,I,I,I,O,O,O] rfl rfl (any_of HT_.out (by kernel_rfl)) (fun _ _ _ h => h) (Or.inl ⟨by rfl, ?_⟩) ?_ ?_; rotate_left; (· intro w'; go_simp; with_reducible rfl); rotate_left; (· simp only [Act.put, sA_, sB_, sC_, i64_w, i32_w]; rfl); refine take_ (i := 3) (N := some 20) (v := ?_) (a' := ?_) #[I,I,I,I,I,I,I,O,O,O] rfl rfl (take_ofW HT_.out HW_.out (by kernel_rfl)) (fun _ _ _ h => h) (Or.inl ⟨by rfl, ?_⟩) hHeld ?_ ?_; rotate_left; (· rintro w' ⟨s0, s1, s2, s3, s4, s5, s6, s7, s8, s9, s10, s11⟩; go_simp; with_reducible rfl); rotate_left; (· simp only [Act.put, sA_, sB_, sC_, i64_w, i32_w]; rfl); refine take_ (i := 7) (N := some 24) (v := ?_) (a' := ?_) #[I,I,I,I,I,I,I,I,O,O] rfl rfl (take_ofW HT_.out HW_.out (by kernel_rfl)) (fun _ _ _ h => h) (Or.inl ⟨by rfl, ?_⟩) hHeld ?_ ?_
        rotate_left; (· rintro w' ⟨s0, s1, s2, s3, s4, s5, s6, s7, s8, s9, s10, s11⟩; go_simp; with_reducible rfl); rotate_left; (· simp only [Act.put, sA_, sB_, sC_, i64_w, i32_w]; rfl); refine one_ (i := 8) (N := some 25) #[I,I,I,I,I,I,I,I,I,O] rfl rfl (one_of HT_.out (by kernel_rfl)) (by decide) (fun K hK => ?_); refine goes_ Try.func42 (by kernel_rfl) rfl #[.agg #[.int .i64 ((rd_T76 l0 x5_1).f0), .int .i64 ((rd_T76 l0 x5_1).f1), .int .i64 ((rd_T76 l0 x5_1).f2), .int .i64 ((rd_T76 l0 x5_1).f3), .int .i64 ((rd_T76 l0 x5_1).f4), .slice A197_5 ((rd_T76 l0 x5_1).f5).length c197_5], .agg #[.int .i64 ((rd_T76 l1 x5_1).f0), .int .i64 ((rd_T76 l1 x5_1).f1), .int .i64 ((rd_T76 l1 x5_1).f2), .int .i64 ((rd_T76 l1 x5_1).f3), .int .i64 ((rd_T76 l1 x5_1).f4), .slice A198_5 ((rd_T76 l1 x5_1).f5).length c198_5]] (by rfl) rfl rfl (by (try simp only [List.map_toArray, List.map_cons, List.map_nil]); first | done | rfl | (simp only [List.length_drop, List.length_take]; rfl)) ?_
        with_reducible refine (dioramaref36_Same.calls k1 ((rd_T76 l0 x5_1).f0) ((rd_T76 l0 x5_1).f1) ((rd_T76 l0 x5_1).f2) ((rd_T76 l0 x5_1).f3) ((rd_T76 l0 x5_1).f4) _ _ ((rd_T76 l0 x5_1).f5) ((rd_T76 l1 x5_1).f0) ((rd_T76 l1 x5_1).f1) ((rd_T76 l1 x5_1).f2) ((rd_T76 l1 x5_1).f3) ((rd_T76 l1 x5_1).f4) _ _ ((rd_T76 l1 x5_1).f5) false _ ?side1 ?side2 ?side3 ?side4 A7.out).mono ?_
        (case side1 => repeat (first | exact (Kd.C_below HR197_5.out HB.out) | (with_reducible refine Kd.C_alloc ?_ _) | (with_reducible refine Kd.C_drewN ?_ _) | (with_reducible refine Kd.C_drew ?_)))
        (case side2 => exact HC197_5.out)
        (case side3 => repeat (first | exact (Kd.C_below HR198_5.out HB.out) | (with_reducible refine Kd.C_alloc ?_ _) | (with_reducible refine Kd.C_drewN ?_ _) | (with_reducible refine Kd.C_drew ?_)))
        (case side4 => exact HC198_5.out)
        rintro e w12 ⟨rfl, hb⟩; refine ⟨_, rfl, ?_⟩; have n0_ := Aside0.mk (below_step (by repeat (first | (with_reducible first | exact HB.out | apply below_alloc | apply pw_below_drewN | apply below_drew1) | exact HB.out)) hb); clear HB; have HB := n0_; clear n0_
        (try clear hb)
        (try clear hb2)
        (try clear hk)
        (try clear hi)
        refine hK.out _ _ ⟨((HB.out.cell (World.block_lt_of_cell? w _ hw197_0)).trans hw197_0), ((HB.out.cell (World.block_lt_of_cell? w _ hw197_1)).trans hw197_1), ((HB.out.cell (World.block_lt_of_cell? w _ hw197_2)).trans hw197_2), ((HB.out.cell (World.block_lt_of_cell? w _ hw197_3)).trans hw197_3), ((HB.out.cell (World.block_lt_of_cell? w _ hw197_4)).trans hw197_4), ((HB.out.cell (World.block_lt_of_cell? w _ hw197_5)).trans hw197_5), ((HB.out.cell (World.block_lt_of_cell? w _ hw198_0)).trans hw198_0), ((HB.out.cell (World.block_lt_of_cell? w _ hw198_1)).trans hw198_1), ((HB.out.cell (World.block_lt_of_cell? w _ hw198_2)).trans hw198_2), ((HB.out.cell (World.block_lt_of_cell? w _ hw198_3)).trans hw198_3), ((HB.out.cell (World.block_lt_of_cell? w _ hw198_4)).trans hw198_4), ((HB.out.cell (World.block_lt_of_cell? w _ hw198_5)).trans hw198_5)⟩ (fun hHeld => ?_); clear hK K; refine norm_ (a' := ?_) ?_ ?_; rotate_left
        ·show Act.put _ (some 25) _ = _
         simp only [Act.put, sA_, sB_, sC_, i64_w, i32_w]; rfl
        refine pure_ (i := 9) (N := some 26) (v := ?_) (a' := ?_) #[I,I,I,I,I,I,I,I,I,I] rfl rfl (any_of HT_.out (by kernel_rfl)) (fun _ _ _ h => h) (Or.inl ⟨by rfl, ?_⟩) ?_ ?_; rotate_left; (· intro w'; go_simp; with_reducible rfl); rotate_left; (· simp only [Act.put, sA_, sB_, sC_, i64_w, i32_w]; rfl); refine done_ (done_of HT_.out (by kernel_rfl)) ?_
        try go_wp2
        go_ret; exact ⟨by first | rfl | (simp [errW_none, errW_some] <;> rfl) | (simp [*, errW_none, errW_some] <;> rfl), by repeat (first | (with_reducible first | exact HB.out | apply below_alloc | apply pw_below_drewN | apply below_drew1) | exact HB.out)⟩
      (· rw [if_neg c6] at H; exact absurd H (by simp))
     (· rw [if_neg c5] at H; exact absurd H (by simp))
    (· rw [if_neg c4] at H; have c4b0 : decide (x5_1 < (l0.length : Int)) = false := decide_eq_false c4; clear c4; obtain rfl := Option.some.inj H; go_wp2; go_ret; exact ⟨by first | rfl | (simp [errW_none, errW_some] <;> rfl) | (simp [*, errW_none, errW_some] <;> rfl), by repeat (first | (with_reducible first | exact HB.out | apply below_alloc | apply pw_below_drewN | apply below_drew1) | exact HB.out)⟩)
 ·rw [if_neg c3] at H
  have c3b0 : ((l0.length : Int) == (l1.length : Int)) = false := beq_eq_false_iff_ne.mpr c3; have c3b1 : ((l0.length : Int) != (l1.length : Int)) = true := bne_iff_ne.mpr c3
  have c3b2 : (l0.length == l1.length) = false := by first | simpa using c3 | (simp at c3 ⊢; omega)
  obtain rfl := Option.some.inj H
  go_enter Try.func16, Try.ntmps16
  go_wp2; go_ret; exact ⟨by first | rfl | (simp [errW_none, errW_some] <;> rfl) | (simp [*, errW_none, errW_some] <;> rfl), by repeat (first | (with_reducible first | exact HB.out | apply below_alloc | apply pw_below_drewN | apply below_drew1) | exact HB.out)⟩
end Go.Proofs.Ytcgpemefmakjiaa.PX
