/- Texts of this claim, merged: part 5. -/
import Derived.Test.YtcgpemefmakjiaaApplies4
import Derived.Sort.LoopGhostIn
import Derived.Test.YtcgpemefmakjiaaApplies2
import Derived.Lib.Hide
import Derived.Test.YtcgpemefmakjiaaApplies3
import Derived.StillTailTactics
import Derived.Deep.QuietTactic
import Derived.BigQuiet
set_option linter.unusedVariables false
set_option linter.unusedSimpArgs false
namespace Go.Proofs.Ytcgpemefmakjiaa.PX
open Go.RowKit Go.Shelf Go.Proofs.Ytcgpemefmakjiaa.Iter Go.Proofs.YtcgpemefmakjiaaW.PrintWords Go.Proofs.YtcgpemefmakjiaaW.PrintLast Go.Proofs.YtcgpemefmakjiaaW.PrintMore
attribute [local go_sem] Oper.semAt_some
theorem row_at {w : World} {A : Option Addr} {n : Nat} {xs : List Int} (h : Kd.C (Kd.int .i64) w A n xs) (k : Nat) (hk : k < n) : ∃ ad, A = some ad ∧ w.cell? (ad.add k) = some (.int .i64 (rd xs k)) := by
 obtain ⟨ad, c, e, _, hK, hc0⟩ := Kd.C_get h (0 : Int) (k : Int) (by omega) (by omega); have hK' : c = [.int .i64 (rd xs k)] := hK; subst hK'; have := hc0 0 _ rfl; exact ⟨ad, e, by simpa [Kd.int, Kd.scalar] using this⟩
set_option maxHeartbeats 2000000 in
set_option maxRecDepth 100000 in
theorem changes1_iterates (n : Nat) (w0 W1 : World) (l : Nat) (kind : Int) (m : Nat) (A Ab : Option Addr) (ca cb : Nat) (a b : List (List Int)) (bm ba bb bk : Nat)
  (hm_ : W1.heap[bm]? = some (.cells #[.int .i64 m] 3 (0, 0))) (ha_ : W1.heap[ba]? = some (.cells #[.slice A a.length ca] 64 (0, 0))) (hb_ : W1.heap[bb]? = some (.cells #[.slice Ab b.length cb] 64 (0, 0))) (hk_ : W1.heap[bk]? = some (.cells #[.int .i64 kind] 3 (0, 0)))
  (hbel : Below w0.heap.size w0 W1) (ha : Kd.C (Kd.slice 3 (Kd.int .i64)) w0 A a.length a) (hb : Kd.C (Kd.slice 3 (Kd.int .i64)) w0 Ab b.length b)
  (hma : m ≤ a.length) (hmb : m ≤ b.length) (hrow : ∀ i : Nat, i < m → (rd_L1 a i).length ≤ (rd_L1 b i).length) (hla : ∀ i : Nat, i < a.length → (rd_L1 a i).length < 17592186044416) (hlb : ∀ i : Nat, i < b.length → (rd_L1 b i).length < 17592186044416)
  (hla2 : a.length ≤ 100000) (hlb2 : b.length ≤ 100000) (hra2 : ∀ i : Nat, i < m → (rd_L1 a i).length ≤ 100000) :
  Iterates Fence.wide n Try.prog 64 #[.pointer (some ⟨bm, 0, none⟩), .pointer (some ⟨ba, 0, none⟩), .pointer (some ⟨bb, 0, none⟩), .pointer (some ⟨bk, 0, none⟩)] Yd.enc (Yd.T w0.heap.size) (fun xs _ => xs.map (·.1) = chgs kind a b m) 100000000000 w0.heap.size [30, 61] [4] l W1 := by
 intro J hJ hY h0
 have hsum : ∀ i : Nat, i ≤ m → (setAll kind a b i).length ≤ 100000 * i := by
  intro i
  induction i with
  | zero => intro _; simp [setAll]
  | succ i ih =>
   intro hi; rw [setAll_snoc, List.length_append]; have h1 := setRow_le kind i (rd_L1 a i) (rd_L1 b i) (rd_L1 a i).length; have h2 := hra2 i (by omega); have h3 := ih (by omega); omega
 have HSUM := A_ hsum; have HRA2 := A_ hra2; clear hsum hra2; have hla1 := ha.2.1; have hlb1 := hb.2.1; have HRA := A_ ha; have HRB := A_ hb; have HJ := A_ hJ; have HY := A_ hY; have HROW := A_ hrow; have HLA := A_ hla; have HLB := A_ hlb
 have HC0 := A_ (show Ctx w0 l kind m A Ab ca cb a b bm ba bb bk (W1.heap.size + 1) W1.heap.size ((W1.alloc (.cells #[.func (.yield l) #[] #[]] 104)).alloc (.cells #[.bool true] 4)) from by
  have hb2 : Below W1.heap.size W1 ((W1.alloc (.cells #[.func (.yield l) #[] #[]] 104)).alloc (.cells #[.bool true] 4)) := below_alloc (below_alloc (Below.refl _ _) _) _
  have q : ∀ i o, W1.heap[i]? = some o → ((W1.alloc (.cells #[.func (.yield l) #[] #[]] 104)).alloc (.cells #[.bool true] 4)).heap[i]? = some o := fun i o hi => (hb2.block i (Array.getElem?_eq_some_iff.1 hi).1).trans hi
  refine ⟨q _ _ hm_, q _ _ ha_, q _ _ hb_, q _ _ hk_, ?_, ?_, hbel.trans (hb2.mono hbel.size)⟩
  ·have := heap_alloc_new (W1.alloc (.cells #[.func (.yield l) #[] #[]] 104)) (.cells #[.bool true] 4)
   rwa [World.size_alloc] at this
  ·exact (Below.heap_alloc _ _ _ (by simp)).trans (heap_alloc_new W1 _))
 have HJ0 := A_ (show J [] ((W1.alloc (.cells #[.func (.yield l) #[] #[]] 104)).alloc (.cells #[.bool true] 4)) from hJ _ _ _ (hJ _ _ _ h0 (StepC.alloc _ _ _ _)) (StepC.alloc _ _ _ _)); have hsz := hbel.size; have hcm := cell_of_row _ _ 0 _ 3 (0, 0) HC0.out.m_; have hfm := cell_of_row _ _ 0 _ 4 (0, 0) HC0.out.more; clear ha hb hJ hY hrow hla hlb h0 hm_ ha_ hb_ hk_; refine callsIn_of_wp Try.func64 rfl trivial ?_ rfl; simp only [Try.ntmps64, List.size_toArray, List.length_cons, List.length_nil, Nat.reduceAdd, Nat.reduceSub, Array.replicate_succ, Array.replicate_zero, List.push_toArray, List.append_toArray, List.nil_append, List.cons_append]
 gi_wp2
 gi_loopw [15] (fun v wr => ∃ (i : Nat) (pre : List Yd), i ≤ m ∧ v = .int .i64 i ∧ Aside0 (pre.map (·.1) = setAll kind a b i) ∧ Aside0 (J pre wr) ∧ Aside0 (Ctx w0 l kind m A Ab ca cb a b bm ba bb bk (W1.heap.size + 1) W1.heap.size wr)) (fun v _ => m - (intOf v).toNat)
 case atStart => exact ⟨0, [], Nat.zero_le _, rfl, ⟨by simp [setAll]⟩, HJ0, HC0⟩
 case round =>
  obtain ⟨i, pre, hi, rfl, HP, HJi, HC⟩ := hrel; clear HJ0 HC0 hcm hfm
  by_cases hlt : i < m
  ·obtain ⟨wo, rfl⟩ : ∃ wo : World, wo = wr := ⟨_, rfl⟩
   obtain ⟨ad, A0, c0, e0, hx0, hl0, hi0⟩ := at_L1 HRA.out i (by omega) (by omega)
   cases e0
   rw [Int.toNat_natCast] at hx0; have hx1 : wo.cell? (ad.add i) = some (.slice A0 (rd_L1 a i).length c0) := (HC.out.bel.cell (World.block_lt_of_cell? w0 _ hx0)).trans hx0; have hca := cell_of_row _ _ 0 _ 64 (0, 0) HC.out.a_; have hra := hi0.2.1; have HI0 := A_ hi0; have HX0 := A_ hx0; clear hx0 hl0 hi0
   gi_wp2
   gi_loopw [23] (fun v wr => ∃ (k : Nat) (pre : List Yd), k ≤ (rd_L1 a i).length ∧ v = .int .i64 k ∧ Aside0 (pre.map (·.1) = setAll kind a b i ++ setRow kind i (rd_L1 a i) (rd_L1 b i) k) ∧ Aside0 (J pre wr) ∧ Aside0 (Ctx w0 l kind m (some ad) Ab ca cb a b bm ba bb bk (W1.heap.size + 1) W1.heap.size wr)) (fun v _ => (rd_L1 a i).length - (intOf v).toNat)
   case atStart => exact ⟨0, pre, Nat.zero_le _, rfl, ⟨by rw [HP.out]; simp [setRow]⟩, HJi, HC⟩
   case round =>
    clear HP HJi HC hca hx1; obtain ⟨k, pre, hk, rfl, HP, HJi, HC⟩ := hrel
    by_cases hkl : k < (rd_L1 a i).length
    ·obtain ⟨bd, B0, d0, f0, hy0, hm0, hj0⟩ := at_L1 HRB.out i (by omega) (by omega)
     cases f0
     rw [Int.toNat_natCast] at hy0; have hrw := HROW.out i hlt; have hrb := hj0.2.1; obtain ⟨ak, rfl, hak⟩ := row_at HI0.out k hkl; obtain ⟨bk', rfl, hbk⟩ := row_at hj0 k (by omega); have hca := cell_of_row _ _ 0 _ 64 (0, 0) HC.out.a_; have hcb := cell_of_row _ _ 0 _ 64 (0, 0) HC.out.b_; have hck := cell_of_row _ _ 0 _ 3 (0, 0) HC.out.k_; have hx1 : wr.cell? (ad.add i) = some (.slice (some ak) (rd_L1 a i).length c0) := (HC.out.bel.cell (World.block_lt_of_cell? w0 _ HX0.out)).trans HX0.out; have hy1 : wr.cell? (bd.add i) = some (.slice (some bk') (rd_L1 b i).length d0) := (HC.out.bel.cell (World.block_lt_of_cell? w0 _ hy0)).trans hy0; have hak1 : wr.cell? (ak.add k) = some (.int .i64 (rd (rd_L1 a i) k)) := (HC.out.bel.cell (World.block_lt_of_cell? w0 _ hak)).trans hak; have hbk1 : wr.cell? (bk'.add k) = some (.int .i64 (rd (rd_L1 b i) k)) := (HC.out.bel.cell (World.block_lt_of_cell? w0 _ hbk)).trans hbk; clear hy0 hm0 hj0 hak hbk
     by_cases hd : rd (rd_L1 b i) k = rd (rd_L1 a i) k
     ·have HE : Hid (setAt kind i (rd_L1 a i) (rd_L1 b i) k = []) := if_pos hd
      have hd1 : (rd (rd_L1 b i) (k : Int) != rd (rd_L1 a i) (k : Int)) = false := by rw [hd]; simp
      clear hd
      gi_wp2
      go_roundw
      case rel => exact ⟨k + 1, pre, by omega, by go_num, ⟨by rw [HP.out, setRow_snoc, HE.out, List.append_nil]⟩, HJi, HC⟩
      case measure => simp [intOf] <;> omega
     ·have HE : Hid (setAt kind i (rd_L1 a i) (rd_L1 b i) k = [⟨kind, i, k, rd (rd_L1 a i) k, rd (rd_L1 b i) k, []⟩]) := if_neg hd
      have hd1 : (rd (rd_L1 b i) (k : Int) != rd (rd_L1 a i) (k : Int)) = true := by simpa using hd
      clear hd
      have HLEN := A_ (show pre.length < 100000000000 from by
       have e := congrArg List.length HP.out; rw [List.length_map, List.length_append] at e; have h1 := HSUM.out i (by omega); have h2 := setRow_le kind i (rd_L1 a i) (rd_L1 b i) k; have h3 := HRA2.out i hlt
       omega)
      have HS := A_ (fun n' => say_step (n := n) J HJ.out HY.out (by omega) hsz pre (⟨kind, i, k, rd (rd_L1 a i) k, rd (rd_L1 b i) k, []⟩, .slice none 0 0) wr.drew
       (HJ.out _ _ _ HJi.out ⟨none, grown_of_below (below_drew (Below.refl _ _)) none, fun r e => by cases e⟩) HLEN.out (HC.out.later (below_drew (Below.refl _ _))) (Kd.R_nil _ _ _ _ _) n')
      gi_wp2
      gi_region_with (refine ⟨trivial, (fun h => by cases h), ?_⟩; refine (HS.out _).mono ?_; rintro e W' ⟨⟨v, rfl⟩, hj2, hc2⟩; have HJ2 := A_ hj2; have HC2 := A_ hc2; clear hj2 hc2)
      all_goals
       clear HJi HC hca hcb hck hx1 hy1 hak1 hbk1
       gi_wp2
       go_roundw
       case rel => exact ⟨k + 1, pre ++ [_], by omega, by go_num, ⟨by rw [List.map_append, HP.out, setRow_snoc, HE.out, List.append_assoc]; rfl⟩, HJ2, HC2⟩
       case measure => simp [intOf] <;> omega
    ·gi_wp2
     go_roundw
     case rel => exact ⟨i + 1, pre, by omega, by go_num, ⟨by rw [HP.out, setAll_snoc]; congr 2; omega⟩, HJi, HC⟩
     case measure => simp [intOf] <;> omega
  ·have hca := cell_of_row _ _ 0 _ 64 (0, 0) HC.out.a_
   have hcm := cell_of_row _ _ 0 _ 3 (0, 0) HC.out.m_
   have him : i = m := by omega
   subst him; have hq0 : ((a.length : Int) - 1) = ((a.length : Nat) : Int) - 1 := rfl
   gi_wp2
   gi_loopw [11] (fun v wr => ∃ (p : Nat) (pre : List Yd), i ≤ p ∧ p ≤ a.length ∧ v = .int .i64 ((p : Int) - 1) ∧ Aside0 (pre.map (·.1) = setAll kind a b i ++ takeL kind a (a.length - p)) ∧ Aside0 (J pre wr) ∧ Aside0 (Ctx w0 l kind i A Ab ca cb a b bm ba bb bk (W1.heap.size + 1) W1.heap.size wr)) (fun v _ => (intOf v + 1).toNat)
   case atStart => exact ⟨a.length, pre, by omega, Nat.le_refl _, rfl, ⟨by rw [HP.out]; simp [takeL]⟩, HJi, HC⟩
   case round =>
    clear HP HJi HC hca hcm; obtain ⟨p, pre, hp1, hp2, rfl, HP, HJi, HC⟩ := hrel
    by_cases hpm : i < p
    ·obtain ⟨q, rfl⟩ : ∃ q, p = q + 1 := ⟨p - 1, by omega⟩
     have hcast : (((q + 1 : Nat) : Int) - 1) = (q : Int) := by omega
     rw [hcast]; clear hcast
     have HT : Hid (takeL kind a (a.length - q) = takeL kind a (a.length - (q + 1)) ++ [⟨kind, q, -2, 0, 0, rd_L1 a q⟩]) := by
      have e : a.length - q = (a.length - (q + 1)) + 1 := by omega
      have e2 : ((a.length : Int) - 1 - ((a.length - (q + 1) : Nat) : Int)) = q := by omega
      unfold Hid; rw [e, takeL_snoc, e2]
     obtain ⟨ad, A0, c0, e0, hx0, hl0, hi0⟩ := at_L1 HRA.out q (by omega) (by omega)
     cases e0
     rw [Int.toNat_natCast] at hx0; have hx1 : wr.cell? (ad.add q) = some (.slice A0 (rd_L1 a q).length c0) := (HC.out.bel.cell (World.block_lt_of_cell? w0 _ hx0)).trans hx0; have hca := cell_of_row _ _ 0 _ 64 (0, 0) HC.out.a_; have hcm := cell_of_row _ _ 0 _ 3 (0, 0) HC.out.m_; have hck := cell_of_row _ _ 0 _ 3 (0, 0) HC.out.k_; have hra := hi0.2.1; have HCl := A_ (fun n' => callsIn_wide (n := n').2 (slices_Clone_int_int.calls A0 c0 (rd_L1 a q) (rd_L1 a q) wr.drew (Kd.C_below (Kd.C_below hi0 HC.out.bel) (below_drew (Below.refl _ _))) hl0 (if_pos (HLA.out q (by omega)))))
     have HLEN := A_ (show pre.length < 100000000000 from by
      have e := congrArg List.length HP.out; rw [List.length_map, List.length_append] at e; have h1 := HSUM.out i (by omega)
      have h2 : (takeL kind a (a.length - (q + 1))).length = a.length - (q + 1) := by simp [takeL]
      omega)
     have HS := A_ (fun (W : World) (hw : Below wr.heap.size wr W) (v0 : Value) (hR : Kd.R (Kd.int .i64) 3 W wr.heap.size (fun _ => True) v0 (rd_L1 a q)) n' => say_step (n := n) J HJ.out HY.out (by omega) hsz pre (⟨kind, q, -2, 0, 0, rd_L1 a q⟩, v0) W
      (HJ.out _ _ _ HJi.out ⟨none, grown_of_below hw none, fun r e => by cases e⟩) HLEN.out (HC.out.later hw) (Kd.R_lower hR HC.out.bel.size) n')
     have HCK := A_ (fun (W : World) (hw : Below wr.heap.size wr W) => (hw.cell (p := ⟨bk, 0, none⟩) (World.block_lt_of_cell? wr _ hck)).trans hck); clear hx0 hl0 hi0
     gi_wp2
     gi_region_with (refine ⟨trivial, (fun h => by cases h), ?_⟩; first
      | ((with_reducible refine (HCl.out _).mono ?_); rintro e W2 ⟨v0, rfl, hR, hB2⟩; obtain ⟨Av, cv, rfl⟩ := Kd.R_slice hR; have hB3 : Below wr.heap.size wr W2 := (below_drew (Below.refl _ wr)).trans hB2; have hck2 := HCK.out W2 hB3; have HB3 := A_ hB3; have HR3 := A_ hR; clear hB2 hB3 hR)
      | (refine (HS.out _ HB3.out _ HR3.out _).mono ?_; rintro e W' ⟨⟨v, rfl⟩, hj2, hc2⟩; have HJ2 := A_ hj2; have HC2 := A_ hc2; clear hj2 hc2))
     all_goals
      clear HJi HC hca hcm hck hx1
      gi_wp2
      go_roundw
      case rel => exact ⟨q, pre ++ [_], by omega, by omega, by go_num, ⟨by rw [List.map_append, HP.out, HT.out, List.append_assoc]; rfl⟩, HJ2, HC2⟩
      case measure => simp [intOf] <;> omega
    ·have hpi : p = i := by omega
     subst hpi; have hcm := cell_of_row _ _ 0 _ 3 (0, 0) HC.out.m_
     have hneg : ¬ ((p : Int) ≤ (p : Int) - 1) := by omega
     gi_wp2
     gi_loopw [12] (fun v wr => ∃ (j : Nat) (pre : List Yd), p + j ≤ b.length ∧ v = .int .i64 ((p : Int) + j) ∧ Aside0 (pre.map (·.1) = setAll kind a b p ++ takeL kind a (a.length - p) ++ addL kind b p j) ∧ Aside0 (J pre wr) ∧ Aside0 (Ctx w0 l kind p A Ab ca cb a b bm ba bb bk (W1.heap.size + 1) W1.heap.size wr)) (fun v _ => b.length - (intOf v).toNat)
     case atStart => exact ⟨0, pre, by omega, by simp, ⟨by rw [HP.out]; simp [addL]⟩, HJi, HC⟩
     case round =>
      clear HP HJi HC hcm; obtain ⟨j, pre, hj, rfl, HP, HJi, HC⟩ := hrel; have hcb := cell_of_row _ _ 0 _ 64 (0, 0) HC.out.b_; have hck := cell_of_row _ _ 0 _ 3 (0, 0) HC.out.k_
      by_cases hjl : p + j < b.length
      ·have hcast : ((p : Int) + (j : Int)) = ((p + j : Nat) : Int) := by omega
       obtain ⟨ad, A0, c0, e0, hx0, hl0, hi0⟩ := at_L1 HRB.out ((p + j : Nat) : Int) (by omega) (by omega)
       cases e0
       rw [Int.toNat_natCast] at hx0
       have HT : Hid (addL kind b p (j + 1) = addL kind b p j ++ [⟨kind, ((p + j : Nat) : Int), -1, 0, 0, rd_L1 b ((p + j : Nat) : Int)⟩]) := by
        unfold Hid; rw [addL_snoc, hcast]
       rw [hcast]; clear hcast; have HLQ := A_ (HLB.out (p + j) hjl); obtain ⟨q, hq⟩ : ∃ q, q = p + j := ⟨_, rfl⟩; rw [← hq] at hx0 hi0 hl0 HT HLQ hjl ⊢; have HQ := Lib.hid hq; clear hq; have hx1 : wr.cell? (ad.add q) = some (.slice A0 (rd_L1 b q).length c0) := (HC.out.bel.cell (World.block_lt_of_cell? w0 _ hx0)).trans hx0; have hrb := hi0.2.1; have HCl := A_ (fun n' => callsIn_wide (n := n').2 (slices_Clone_int_int.calls A0 c0 (rd_L1 b q) (rd_L1 b q) wr.drew (Kd.C_below (Kd.C_below hi0 HC.out.bel) (below_drew (Below.refl _ _))) hl0 (if_pos HLQ.out)))
       have HLEN := A_ (show pre.length < 100000000000 from by
        have e := congrArg List.length HP.out; rw [List.length_map, List.length_append, List.length_append] at e; have h1 := HSUM.out p (by omega)
        have h2 : (takeL kind a (a.length - p)).length = a.length - p := by simp [takeL]
        have h3 : (addL kind b p j).length = j := by simp [addL]
        omega)
       have HS := A_ (fun (W : World) (hw : Below wr.heap.size wr W) (v0 : Value) (hR : Kd.R (Kd.int .i64) 3 W wr.heap.size (fun _ => True) v0 (rd_L1 b q)) n' => say_step (n := n) J HJ.out HY.out (by omega) hsz pre (⟨kind, q, -1, 0, 0, rd_L1 b q⟩, v0) W
        (HJ.out _ _ _ HJi.out ⟨none, grown_of_below hw none, fun r e => by cases e⟩) HLEN.out (HC.out.later hw) (Kd.R_lower hR HC.out.bel.size) n')
       have HCK := A_ (fun (W : World) (hw : Below wr.heap.size wr W) => (hw.cell (p := ⟨bk, 0, none⟩) (World.block_lt_of_cell? wr _ hck)).trans hck); clear hx0 hl0 hi0
       gi_wp2
       gi_region_with (refine ⟨trivial, (fun h => by cases h), ?_⟩; first
        | ((with_reducible refine (HCl.out _).mono ?_); rintro e W2 ⟨v0, rfl, hR, hB2⟩; obtain ⟨Av, cv, rfl⟩ := Kd.R_slice hR; have hB3 : Below wr.heap.size wr W2 := (below_drew (Below.refl _ wr)).trans hB2; have hck2 := HCK.out W2 hB3; have HB3 := A_ hB3; have HR3 := A_ hR; clear hB2 hB3 hR)
        | (refine (HS.out _ HB3.out _ HR3.out _).mono ?_; rintro e W' ⟨⟨v, rfl⟩, hj2, hc2⟩; have HJ2 := A_ hj2; have HC2 := A_ hc2; clear hj2 hc2))
       all_goals
        clear HJi HC hcb hck hx1
        gi_wp2
        go_roundw
        case rel => exact ⟨j + 1, pre ++ [_], by have := HQ.out; omega, by have := HQ.out; rw [show (p : Int) + ((j + 1 : Nat) : Int) = (q : Int) + 1 from by omega], ⟨by rw [List.map_append, HP.out, HT.out, ← List.append_assoc]; rfl⟩, HJ2, HC2⟩
        case measure => simp [intOf] <;> omega
      ·have hjb : p + j = b.length := by omega
       have HF : Hid (pre.map (·.1) = chgs kind a b p) := by
        unfold Hid; rw [HP.out, chgs, show j = b.length - p from by omega]
       have hneg2 : ¬ ((p : Int) + j < (b.length : Int)) := by omega
       clear hjb
       gi_wp2
       go_end0
       exact ⟨⟨_, rfl⟩, pre, HF.out, HJi.out⟩
end Go.Proofs.Ytcgpemefmakjiaa.PX
namespace Go.Proofs.Ytcgpemefmakjiaa.Iter
open Go.RowKit Go.Proofs.YtcgpemefmakjiaaW.PrintWords
def marksOf (Ds : List Nat) : List Deferred := Ds.map fun D => { target := .collected D, args := #[] }
def Marked (B : Nat) (Ds : List Nat) (W : World) : Prop := Ds.Nodup ∧ ∀ D, D ∈ Ds → B ≤ D ∧ W.heap[D]? = some (.deferred (some []))
theorem Marked.nil (B : Nat) (W : World) : Marked B [] W := ⟨List.nodup_nil, fun D h => by cases h⟩
theorem Marked.later {B : Nat} {Ds : List Nat} {W W' : World} (h : Marked B Ds W) (hk : ∀ (i : Nat) (o : Obj), W.heap[i]? = some o → o.isCells = false → W'.heap[i]? = some o) : Marked B Ds W' :=
 ⟨h.1, fun D hD => ⟨(h.2 D hD).1, hk _ _ (h.2 D hD).2 rfl⟩⟩
theorem Marked.below {B : Nat} {Ds : List Nat} {W W' : World} (h : Marked B Ds W) (hk : Below W.heap.size W W') : Marked B Ds W' :=
 h.later fun i _ hi _ => (hk.block i (Array.getElem?_eq_some_iff.1 hi).1).trans hi
theorem Marked.lt {B : Nat} {Ds : List Nat} {W : World} (h : Marked B Ds W) : ∀ D, D ∈ Ds → D < W.heap.size := fun D hD => (Array.getElem?_eq_some_iff.1 (h.2 D hD).2).1
theorem Marked.cons {B : Nat} {Ds : List Nat} {W : World} {D : Nat} (h : Marked B Ds W) (hB : B ≤ D) (hD : W.heap[D]? = some (.deferred (some []))) (hn : D ∉ Ds) : Marked B (D :: Ds) W :=
 ⟨List.nodup_cons.2 ⟨hn, h.1⟩, fun E hE => by
  rcases List.mem_cons.1 hE with e | e
  (· subst e; exact ⟨hB, hD⟩)
  ·exact h.2 E e⟩
theorem leaves_marks {F : Fence} {n : Nat} {P : Program} {fn : Func} {tmps : Array Value} {R : Ending → World → Prop} {B : Nat} (G : World → Prop)
  (hG : ∀ A C, G A → StepI B [] A C → G C) (hR : ∀ A, G A → LeavesIn F n P fn tmps R [] .returning A) : ∀ (Ds : List Nat) (W : World), Marked B Ds W → G W → LeavesInM F n P fn tmps R (marksOf Ds) .returning W
 | [], W, _, h => hR W h
 | D :: Ds, W, hm, h => by
  obtain ⟨hB, hD⟩ := hm.2 D List.mem_cons_self; have hn := List.nodup_cons.1 hm.1; refine ⟨by simp, .inl ⟨D, _, rfl, run_takeDeferred hD, ?_⟩⟩; refine leaves_marks G hG hR Ds _ ⟨hn.2, fun E hE => ?_⟩ (hG _ _ h (StepI.putObj _ hB hD rfl)); obtain ⟨h1, h2⟩ := hm.2 E (List.mem_cons_of_mem _ hE); exact ⟨h1, (World.putObj_heap_other (fun (e : E = D) => hn.1 (e ▸ hE))).trans h2⟩
theorem R_append_in {α : Type} (d : Kd α) {F : Fence} {n : Nat} {P : Program} {ops : Array Oper} {rest : List Oper} {o : Oper} {a : Act} {Q : Exit → Act → World → Prop} {W : World} (base : Nat) (hgd : o.guard = none) (s x : Operand) (t e : TypeId) (z : Value) (bytes : Nat)
  (ho : o.op = .call { callee := .builtin .append, args := #[s, x], argTypes := #[t, t] })
  (ht : P.underlying t = some (.slice e)) (hinfo : (P.info? e).map (fun i => (i.zero, i.size, i.bytes)) = some (some z, d.sz, bytes)) (hz : z.cells.size = d.sz) (hs0 : 0 < d.sz) (hb0 : 0 < bytes)
  (v : Value) (xs : List α) (p : α) (cs : List Value) (ok okp : Nat → Prop) (hs : a.eval s = v) (hx : a.eval x = .slice (some ⟨W.heap.size, 0, none⟩) 1 1) (hp : d.M W base okp p cs) (hokp : ∀ k, okp k → ok k ∧ some k ≠ v.ownBlock) (hfresh : ∀ k, W.heap.size ≤ k → ok k)
  (HO : d.R e W base ok v xs) (hbase : base ≤ W.heap.size) (hl : (xs.length + 1) * bytes ≤ 140737488355328)
  (h : ∀ v1 w1, d.R e w1 base ok v1 (xs ++ [p]) → (W.alloc (.cells cs.toArray e)).grownBy w1 v.ownBlock → (∃ A c, v1 = .slice A (xs.length + 1) c) → wpListIn F n P ops Q rest (a.put o.dst v1) w1) :
  wpListIn F n P ops Q (o :: rest) a (W.alloc (.cells cs.toArray e)) := by
 obtain ⟨i0, hi, hzz⟩ := Option.map_eq_some_iff.1 hinfo; simp only [Prod.mk.injEq] at hzz; obtain ⟨hz0, hz1, hz2⟩ := hzz; obtain ⟨h0, inner, hown, hr⟩ := HO; have hal : Below W.heap.size W (W.alloc (.cells cs.toArray e)) := (Below.refl _ W).alloc (Nat.le_refl _) _; have hown' : (W.alloc (.cells cs.toArray e)).ownsRow base e d.sz v xs.length inner := hown.alloc _; have hcl : cs.length = d.sz := d.K_len (d.K_of_M hp); have hlen : xs.length + 1 ≤ 140737488355328 := Nat.le_trans (Nat.le_mul_of_pos_right _ hb0) hl
 obtain ⟨v', w', hrun, r1, r2, r3, r4⟩ := run_append_own_at (P := P) (W.alloc (.cells cs.toArray e)) base t o.type e i0 z d.sz bytes ht hi hz0 hz1 hz2 hz hs0 v xs.length inner hown' ⟨W.heap.size, 0, none⟩ 1 1 cs (by rw [hcl]; simp)
  (fun j u hu => by
   rw [show (⟨W.heap.size, 0, none⟩ : Addr).add j = ⟨W.heap.size, j, none⟩ from by unfold Addr.add; split <;> simp_all]; rw [cell_of_row _ _ j _ e (0, 0) (heap_alloc_new W _)]
   simpa using hu) (d.K_one (d.K_of_M hp)) (by simp only [maxLen]; omega) hl (by simp; omega)
 refine wpListIn_plain hgd fun K hK' => ?_
 have hR1 : d.R e w' base ok v' (xs ++ [p]) := by
  have hp' : d.M (W.alloc (.cells cs.toArray e)) base okp p cs := Kd.M_below hp hal; have hr' : Reps (d.M (W.alloc (.cells cs.toArray e)) base (fun k => ok k ∧ some k ≠ v.ownBlock)) d.sz xs inner := hr.imp_ (fun _ _ hq => Kd.M_below hq hal); refine Kd.R_appended h0 hr' hp' hokp (fun k hk => hfresh k (by simp at hk; omega)) r1 r2 ?_
  rcases r4 with r4 | r4
  (· exact .inl r4); (· exact .inr ⟨_, r4, Nat.le_refl _⟩)
 unfold Oper.wpIn; refine ⟨?_, ?_⟩
 ·simp [Oper.about, ho, resolve, Target.leads, Sem.run_pure]
 ·rw [Oper.semAt_plain F _ _ (by rw [ho]; intro c hc'; cases hc')]
  simp [execOp, ho, resolve, invoke, builtin, hs, hx, hrun, Result.andThen]
  obtain ⟨A1, c1, e1⟩ := Kd.R_slice hR1; exact hK' _ _ (h v' w' hR1 r2 ⟨A1, c1, by rw [e1]; simp⟩)
end Go.Proofs.Ytcgpemefmakjiaa.Iter
namespace Go.Proofs.Ytcgpemefmakjiaa.PX
open Go.RowKit Go.Shelf Go.Proofs.Ytcgpemefmakjiaa.Iter Go.Proofs.YtcgpemefmakjiaaW.PrintWords Go.Proofs.YtcgpemefmakjiaaW.PrintLast Go.Proofs.YtcgpemefmakjiaaW.PrintMore
attribute [local go_sem] Oper.semAt_some
def okK (l0 l1 : List (List (List Int))) (k : Nat) : Bool := !(decide (0 < (rd_L2 l0 k).length) && decide (0 < (rd_L2 l1 k).length) && (rd_L1 (rd_L2 l0 k) 0).length != (rd_L1 (rd_L2 l1 k) 0).length)
def diffL (l0 l1 : List (List (List Int))) (n : Nat) : List S61 := (List.range n).flatMap fun (k : Nat) => chgs k (rd_L2 l0 k) (rd_L2 l1 k) (sameM (rd_L2 l0 k) (rd_L2 l1 k))
theorem diffL_snoc (l0 l1 : List (List (List Int))) (n : Nat) : diffL l0 l1 (n + 1) = diffL l0 l1 n ++ chgs n (rd_L2 l0 n) (rd_L2 l1 n) (sameM (rd_L2 l0 n) (rd_L2 l1 n)) := by simp [diffL, List.range_succ, List.flatMap_append]
def diffR (l0 l1 : List (List (List Int))) : List S61 × Int :=
 if shapedB l0 && shapedB l1 && decide (l0.length = l1.length) && (List.range l0.length).all (okK l0 l1) then (diffL l0 l1 l0.length, 0) else ([], 2)
def diff_Diff.f (l0 l1 : List (List (List Int))) : Option (List S61 × Int) := if sumLen l0 < 4611686018427387904 ∧ sumLen l1 < 4611686018427387904 then some (diffR l0 l1) else none
def DiffPost (w : World) (r : List S61 × Int) (e : Ending) (w' : World) : Prop := ∃ v0_ : Value, e = .returned (.tuple #[v0_, .int .i64 r.2]) ∧ Kd.N k61 61 w' w.heap.size (fun k_ => w.heap.size ≤ k_) v0_ r.1 ∧ Below w.heap.size w w'
theorem R_stepI {α : Type} {d : Kd α} {e : Nat} {W W' : World} {base B : Nat} {tI : List Nat} {ok : Nat → Prop} {v : Value} {xs : List α} (h : d.R e W base ok v xs) (hs : StepI B tI W W') (ht : ∀ q, q ∈ e :: d.E → q ∉ tI) : d.R e W' base ok v xs :=
 Kd.R_mono (Kd.R_move (Kd.R_bound h) (fun k hk => by
  obtain ⟨_, _, _, q, hq, cells, hc⟩ := hk; rw [hc]
  exact hs.other hc (ht q hq))) (fun _ hk => hk.1)
theorem _root_.Go.Proofs.Ytcgpemefmakjiaa.Iter.Marked.stepI {B B' : Nat} {Ds tI : List Nat} {W W' : World} (h : Marked B Ds W) (hs : StepI B' tI W W') (hlt : ∀ D, D ∈ Ds → D < B') : Marked B Ds W' :=
 ⟨h.1, fun D hD => ⟨(h.2 D hD).1, by
  obtain ⟨row, hg, hr⟩ := hs; refine (hg.block D (Array.getElem?_eq_some_iff.1 (h.2 D hD).2).1 (fun e => ?_)).trans (h.2 D hD).2; have := (hr D e.symm).1; have := hlt D hD
  omega⟩⟩
theorem M_ne {W : World} {base : Nat} {v : Value} {xs : List S61} {x : S61} {cs : List Value} (hp : k61.M W base (fun _ => True) x cs) (hr : Kd.R k61 61 W base (fun _ => True) v xs) : k61.M W base (fun k => True ∧ some k ≠ v.ownBlock) x cs :=
 k61.M_mono (fun k hk => ⟨trivial, fun e => by
  obtain ⟨_, _, _, q, hq, cells, hc⟩ := hk; obtain ⟨cells', hc'⟩ := Kd.R_typed hr k e.symm; rw [hc] at hc'
  injection hc' with hc'
  injection hc' with _ hc'
  subst hc'
  exact absurd hq (by decide)⟩) (k61.M_bound hp)
theorem diff_leave (w : World) (r : List S61 × Int) (tmps : Array Value) (Ds : List Nat) (W : World) (v0 : Value) (h4 : tmps.getD 4 undef = v0) (h5 : tmps.getD 5 undef = .int .i64 r.2) (hm : Marked w.heap.size Ds W)
  (hR : Kd.R k61 61 W w.heap.size (fun _ => True) v0 r.1) (hB : Below w.heap.size w W) : bodyPostM Fence.wide 5 Try.prog Try.f14 (DiffPost w r) .ret { tmps := tmps, defers := marksOf Ds } W := by
 refine leaves_marks (B := w.heap.size) (fun A => Kd.R k61 61 A w.heap.size (fun _ => True) v0 r.1 ∧ Below w.heap.size w A) (fun A C h hs => ⟨R_stepI h.1 hs (fun _ _ => by simp), hs.below h.2 (Nat.le_refl _) (Nat.le_refl _)⟩) (fun A h => ?_) Ds W hm ⟨hR, hB⟩; refine ⟨_, results_tmp2 rfl _ _ _, v0, ?_, Kd.N_mono (Kd.R_N (Kd.R_bound h.1)) (fun k hk => hk.2.1), h.2⟩; rw [h4, h5]
theorem wp_mid {P : Program} {c : Code} {Q : Exit → Act → World → Prop} {a : Act} {w : World} (R : Act → World → Prop) (h1 : c.wp P (fun e a' w' => match e with | .normal => R a' w' | _ => False) a w) (h2 : ∀ a' w', R a' w' → Q .normal a' w') : c.wp P Q a w :=
 wp_mono h1 fun e a' w' h => by
  cases e with
  | normal => exact h2 _ _ h
  | ret => exact h.elim
  | exit id => exact h.elim
  | goto t => exact h.elim
  | panic ch => exact h.elim
  | outgrown => exact h.elim
theorem anyBad_false {n0 : Nat} {l : List (List Int)} (h : anyBad n0 l = false) (i : Nat) (hi : i < l.length) : (rd_L1 l i).length = n0 ∧ 1 ≤ (rd_L1 l i).length ∧ (rd_L1 l i).length ≤ 10 := by
 unfold anyBad at h; rw [List.any_eq_false] at h; have h1 := h l[i] (List.getElem_mem hi)
 have h2 : rd_L1 l (i : Int) = l[i] := by simp [rd_L1, List.getD_eq_getElem?_getD, hi]
 rw [h2]; have h3 : ¬ badLen l[i].length n0 = true := h1; unfold badLen at h3; simp only [Bool.or_eq_true, bne_iff_ne, decide_eq_true_eq, not_or, Decidable.not_not] at h3; omega
theorem sumLen_ge (l : List (List (List Int))) (k : Nat) (hk : k < l.length) : (rd_L2 l k).length ≤ sumLen l := by
 have h2 : rd_L2 l (k : Int) = l[k] := by simp [rd_L2, List.getD_eq_getElem?_getD, hk]
 rw [h2]; have h3 := sumLen_snoc l k hk; have h4 := sumLen_take l (k + 1); omega
theorem shaped_row {l : List (List (List Int))} (h : shapedB l = true) (k : Nat) (hk : k < l.length) : (rd_L2 l k).length ≤ 512 ∧ ∀ i : Nat, i < (rd_L2 l k).length → (rd_L1 (rd_L2 l k) i).length = (rd_L1 (rd_L2 l k) 0).length ∧ 1 ≤ (rd_L1 (rd_L2 l k) i).length ∧ (rd_L1 (rd_L2 l k) i).length ≤ 10 := by
 unfold shapedB at h; simp only [Bool.and_eq_true, decide_eq_true_eq] at h; obtain ⟨⟨h1, h2⟩, h3⟩ := h; refine ⟨Nat.le_trans (sumLen_ge l k hk) h3, fun i hi => ?_⟩; rw [List.all_eq_true] at h1; have h4 := h1 _ (List.getElem_mem hk)
 have h5 : rd_L2 l (k : Int) = l[k] := by simp [rd_L2, List.getD_eq_getElem?_getD, hk]
 rw [h5] at hi ⊢; exact anyBad_false (by simpa using h4) i hi
theorem shaped_six {l : List (List (List Int))} (h : shapedB l = true) : l.length ≤ 6 := by
 unfold shapedB at h; simp only [Bool.and_eq_true, decide_eq_true_eq] at h; exact h.1.2
theorem setAll_le (kind : Int) (a b : List (List Int)) (m : Nat) (h : ∀ i : Nat, i < m → (rd_L1 a i).length ≤ 100000) : (setAll kind a b m).length ≤ 100000 * m := by
 induction m with
 | zero => simp [setAll]
 | succ m ih =>
  rw [setAll_snoc, List.length_append]; have h1 := setRow_le kind m (rd_L1 a m) (rd_L1 b m) (rd_L1 a m).length; have h2 := h m (by omega); have h3 := ih (fun i hi => h i (by omega)); omega
theorem diffL_le {l0 l1 : List (List (List Int))} (h0 : shapedB l0 = true) (h1 : shapedB l1 = true) : ∀ k : Nat, k ≤ l0.length → k ≤ l1.length → (diffL l0 l1 k).length ≤ 100000000000 * k
 | 0, _, _ => by simp [diffL]
 | k + 1, hk, hk' => by
  rw [diffL_snoc, List.length_append]; have h2 := diffL_le h0 h1 k (by omega) (by omega); obtain ⟨h3, h4⟩ := shaped_row h0 k (by omega); obtain ⟨h5, h6⟩ := shaped_row h1 k (by omega); have h7 : sameM (rd_L2 l0 k) (rd_L2 l1 k) ≤ (rd_L2 l0 k).length := Nat.le_trans (bestOf_le _ _ _) (Nat.min_le_left _ _); have h8 := setAll_le k (rd_L2 l0 k) (rd_L2 l1 k) (sameM (rd_L2 l0 k) (rd_L2 l1 k)) (fun i hi => by have := (h4 i (by omega)).2.2; omega)
  have h9 : (chgs k (rd_L2 l0 k) (rd_L2 l1 k) (sameM (rd_L2 l0 k) (rd_L2 l1 k))).length ≤ 100000000000 := by
   unfold chgs; rw [List.length_append, List.length_append]
   have e1 : (takeL k (rd_L2 l0 k) ((rd_L2 l0 k).length - sameM (rd_L2 l0 k) (rd_L2 l1 k))).length = (rd_L2 l0 k).length - sameM (rd_L2 l0 k) (rd_L2 l1 k) := by simp [takeL]
   have e2 : (addL k (rd_L2 l1 k) (sameM (rd_L2 l0 k) (rd_L2 l1 k)) ((rd_L2 l1 k).length - sameM (rd_L2 l0 k) (rd_L2 l1 k))).length = (rd_L2 l1 k).length - sameM (rd_L2 l0 k) (rd_L2 l1 k) := by simp [addL]
   omega
  omega
structure DiffG (w : World) (bo : Nat) (l0 l1 : List (List (List Int))) (k : Nat) (Ds : List Nat) (v : Value) (W : World) : Prop where
 le : k ≤ l0.length
 marks : Marked w.heap.size Ds W
 box : W.heap[bo]? = some (.cells #[v] 30 (0, 0))
 row : Kd.R k61 61 W w.heap.size (fun _ => True) v (diffL l0 l1 k)
 bel : Below w.heap.size w W
 good : ∀ j, j < k → okK l0 l1 j = true
def DiffJ (w : World) (bo : Nat) (l0 l1 : List (List (List Int))) (k : Nat) (Ds : List Nat) (s : List Yd) (W : World) : Prop :=
 ∃ v', Marked w.heap.size Ds W ∧ W.heap[bo]? = some (.cells #[v'] 30 (0, 0)) ∧ Kd.R k61 61 W w.heap.size (fun _ => True) v' (diffL l0 l1 k ++ s.map (·.1)) ∧ Below w.heap.size w W
def DiffI (w : World) (bo : Nat) (A0 : Option Addr) (c0 : Nat) (l0 : List (List (List Int))) (A1 : Option Addr) (c1 : Nat) (l1 : List (List (List Int))) (a : Act) (W : World) : Prop :=
 ∃ (k : Nat) (Ds : List Nat) (v : Value) (u7 u8 u27 u28 u29 u30 u31 u32 u33 u34 u35 u36 u37 u38 u39 u40 u41 u42 u43 u44 u45 u46 u47 u48 u49 u50 u51 u52 u53 u54 u55 u56 u57 u58 u59 u60 u61 u62 u63 u64 u65 u66 u67 u68 u69 u70 u71 u72 u73 u74 u75 u76 u77 u78 u79 u80 u81 u82 u83 u84 : Value), a = { tmps := #[.slice A0 l0.length c0, .slice A1 l1.length c1, undef, undef, .slice none 0 0, .int .i64 0, .pointer (some ⟨bo, 0, none⟩), u7, u8, .slice A0 l0.length c0, .bool true, .bool false, .bool false, .slice A1 l1.length c1, .bool true, .bool false, .bool false, .bool false, .slice A0 l0.length c0, .int .i64 l0.length, .slice A1 l1.length c1, .int .i64 l1.length, .bool false, .bool false, .slice A0 l0.length c0, .int .i64 l0.length, .int .i64 k, u27, u28, u29, u30, u31, u32, u33, u34, u35, u36, u37, u38, u39, u40, u41, u42, u43, u44, u45, u46, u47, u48, u49, u50, u51, u52, u53, u54, u55, u56, u57, u58, u59, u60, u61, u62, u63, u64, u65, u66, u67, u68, u69, u70, u71, u72, u73, u74, u75, u76, u77, u78, u79, u80, u81, u82, u83, u84, undef], defers := marksOf Ds } ∧ DiffG w bo l0 l1 k Ds v W
set_option maxHeartbeats 1000000 in
set_option maxRecDepth 100000 in
theorem diff_in (A0 : Option Addr) (c0 : Nat) (l0 : List (List (List Int))) (A1 : Option Addr) (c1 : Nat) (l1 : List (List (List Int))) (w : World) (hr0 : Kd.C (Kd.slice 22 (Kd.slice 3 (Kd.int .i64))) w A0 l0.length l0) (hc0 : l0.length ≤ c0)
  (hr1 : Kd.C (Kd.slice 22 (Kd.slice 3 (Kd.int .i64))) w A1 l1.length l1) (hc1 : l1.length ≤ c1) (hs0 : sumLen l0 < 4611686018427387904) (hs1 : sumLen l1 < 4611686018427387904) :
  Calls Try.prog 14 #[.slice A0 l0.length c0, .slice A1 l1.length c1] w (DiffPost w (diffR l0 l1)) := by
 refine (callsIn_wide (n := 5)).1 (callsIn_of_wp_marks Try.func14 rfl trivial ?_ rfl); refine wpIn_wide.2 ?_; simp only [Try.ntmps14, List.size_toArray, List.length_cons, List.length_nil, Nat.reduceAdd, Nat.reduceSub, Array.replicate_succ, Array.replicate_zero, List.push_toArray, List.append_toArray, List.nil_append, List.cons_append]; have hlen0 := hr0.2.1; have hlen1 := hr1.2.1; have H0 := A_ (diff_shaped.calls A0 c0 l0 (shapedB l0) w hr0 hc0 (if_pos hs0)); have H1 := A_ (fun (W : World) (hb : Below w.heap.size w W) => diff_shaped.calls A1 c1 l1 (shapedB l1) W (Kd.C_below hr1 hb) hc1 (if_pos hs1)); have HR0 := A_ hr0; have HR1 := A_ hr1; have HC0 := A_ hc0; have HC1 := A_ hc1; clear hr0 hr1 hc0 hc1 hs0 hs1; generalize hb0 : shapedB l0 = b0 at H0; generalize hb1 : shapedB l1 = b1 at H1; have HB0 := Lib.hid hb0; have HB1 := Lib.hid hb1; clear hb0 hb1
 cases b0 with
 | false =>
  go_wp2_with (go_at_call 37; refine H0.out.mono ?_; rintro e w1 ⟨rfl, hb⟩; have HB := A_ hb; clear hb)
  exact diff_leave w _ _ [] w1 _ rfl (by unfold diffR; rw [HB0.out]; rfl) (Marked.nil _ _) (by unfold diffR; rw [HB0.out]; exact Kd.R_nil _ _ _ _ _) HB.out
 | true =>
  cases b1 with
  | false =>
   go_wp2_with fail
   refine H0.out.mono ?_; rintro e w1 ⟨rfl, hb⟩; have HB := A_ hb; clear hb
   go_wp2_with fail
   refine (H1.out _ HB.out).mono ?_; rintro e w2 ⟨rfl, hb⟩; have HB2 := A_ (HB.out.trans (hb.mono HB.out.size)); clear hb; go_wp2; exact diff_leave w _ _ [] w2 _ rfl (by unfold diffR; rw [HB0.out, HB1.out]; rfl) (Marked.nil _ _) (by unfold diffR; rw [HB0.out, HB1.out]; exact Kd.R_nil _ _ _ _ _) HB2.out
  | true =>
   by_cases hll : l0.length = l1.length
   ·have hne : ((l0.length : Int) != (l1.length : Int)) = false := by rw [hll]; simp
    have HLL := Lib.hid hll; clear hll
    go_wp2_with fail
    refine H0.out.mono ?_; rintro e w1 ⟨rfl, hb⟩; have HB := A_ hb; clear hb
    go_wp2_with fail
    refine (H1.out _ HB.out).mono ?_; rintro e w2 ⟨rfl, hb⟩; have HB2 := A_ (HB.out.trans (hb.mono HB.out.size)); clear hb; go_wp2; have hbo := HB2.out.size; refine wp_loop (DiffI w w2.heap.size A0 c0 l0 A1 c1 l1) (fun a _ => l0.length - (intOf (a.tmps.getD 26 undef)).toNat) ?_ (fun a' W hI => ?_); (· exact ⟨0, [], .slice none 0 0, _, _, _, _, _, _, _, _, _, _, _, _, _, _, _, _, _, _, _, _, _, _, _, _, _, _, _, _, _, _, _, _, _, _, _, _, _, _, _, _, _, _, _, _, _, _, _, _, _, _, _, _, _, _, _, _, _, _, _, _, rfl, ⟨Nat.zero_le _, Marked.nil _ _, heap_alloc_new w2 _, Kd.R_nil _ _ _ _ _, below_alloc HB2.out _, fun j hj => by omega⟩⟩)
    ·obtain ⟨k, Ds, v, u7, u8, u27, u28, u29, u30, u31, u32, u33, u34, u35, u36, u37, u38, u39, u40, u41, u42, u43, u44, u45, u46, u47, u48, u49, u50, u51, u52, u53, u54, u55, u56, u57, u58, u59, u60, u61, u62, u63, u64, u65, u66, u67, u68, u69, u70, u71, u72, u73, u74, u75, u76, u77, u78, u79, u80, u81, u82, u83, u84, rfl, hG⟩ := hI
     have HG := A_ hG; have hk := hG.le; clear hG
     by_cases hlt : k < l0.length
     ·have hk1 : k < l1.length := by have := HLL.out; omega
      obtain ⟨ad, Aa, ca, e0, hx0, hl0, hi0⟩ := at_L2 HR0.out k (by omega) (by omega); obtain ⟨bd, Ab, cb, f0, hy0, hm0, hj0⟩ := at_L2 HR1.out k (by omega) (by omega)
      cases e0
      cases f0
      rw [Int.toNat_natCast] at hx0 hy0; have hx1 : W.cell? (ad.add k) = some (.slice Aa (rd_L2 l0 k).length ca) := (HG.out.bel.cell (World.block_lt_of_cell? w _ hx0)).trans hx0; have hy1 : W.cell? (bd.add k) = some (.slice Ab (rd_L2 l1 k).length cb) := (HG.out.bel.cell (World.block_lt_of_cell? w _ hy0)).trans hy0; have HS0 := A_ (shaped_row HB0.out k hlt); have HS1 := A_ (shaped_row HB1.out k hk1); have hla := HS0.out.1; have hlb := HS1.out.1; have HI0 := A_ hi0; have HJ0 := A_ hj0; have HX0 := A_ hx0; have HY0 := A_ hy0; clear hx0 hy0 hl0 hm0 hi0 hj0; have HOK : Hid (okK l0 l1 k = !(decide (0 < (rd_L2 l0 k).length) && decide (0 < (rd_L2 l1 k).length) && (rd_L1 (rd_L2 l0 k) 0).length != (rd_L1 (rd_L2 l1 k) 0).length)) := rfl
      go_upto_region 7 with (fail)
      refine wp_mid (fun a' W' => ∃ (nq : Nat) (q29 q30 q31 q32 q33 q34 q35 q36 q37 q38 q39 q40 q41 q42 q43 q44 q45 q46 q47 q48 q49 q50 q51 q52 q53 q54 q55 q56 q57 q58 : Value), a' = { tmps := #[.slice (some ad) l0.length c0, .slice (some bd) l1.length c1, undef, undef, .slice none 0 0, .int .i64 0, .pointer (some ⟨w2.heap.size, 0, none⟩), .int .i64 k, u8, .slice (some ad) l0.length c0, .bool true, .bool false, .bool false, .slice (some bd) l1.length c1, .bool true, .bool false, .bool false, .bool false, .slice (some ad) l0.length c0, .int .i64 l0.length, .slice (some bd) l1.length c1, .int .i64 l1.length, .bool false, .bool false, .slice (some ad) l0.length c0, .int .i64 l0.length, .int .i64 k, .bool true, .int .i64 k, q29, q30, q31, q32, q33, q34, q35, q36, q37, q38, q39, q40, q41, q42, q43, q44, q45, q46, q47, q48, q49, q50, q51, q52, q53, q54, q55, q56, q57, q58, .bool (!okK l0 l1 k), u60, u61, u62, u63, u64, u65, u66, u67, u68, u69, u70, u71, u72, u73, u74, u75, u76, u77, u78, u79, u80, u81, u82, u83, u84, undef], defers := marksOf Ds } ∧ W' = W.drewN nq) ?_ ?_
      ·by_cases ha : 0 < (rd_L2 l0 k).length
       ·have ha1 : (0 : Int) < ((rd_L2 l0 k).length : Int) := by omega
        obtain ⟨aa, Ar, cr, ea, hxa, hla', hia⟩ := at_L1 HI0.out 0 (by omega) (by omega)
        by_cases hb : 0 < (rd_L2 l1 k).length
        ·have hb1 : (0 : Int) < ((rd_L2 l1 k).length : Int) := by omega
         obtain ⟨ab, Br, dr, eb, hxb, hlb', hib⟩ := at_L1 HJ0.out 0 (by omega) (by omega)
         cases ea
         cases eb
         have hxa1 : W.cell? aa = some (.slice Ar (rd_L1 (rd_L2 l0 k) 0).length cr) := by
          have : w.cell? aa = some (.slice Ar (rd_L1 (rd_L2 l0 k) 0).length cr) := by simpa [Addr.add] using hxa
          exact (HG.out.bel.cell (World.block_lt_of_cell? w _ this)).trans this
         have hxb1 : W.cell? ab = some (.slice Br (rd_L1 (rd_L2 l1 k) 0).length dr) := by
          have : w.cell? ab = some (.slice Br (rd_L1 (rd_L2 l1 k) 0).length dr) := by simpa [Addr.add] using hxb
          exact (HG.out.bel.cell (World.block_lt_of_cell? w _ this)).trans this
         clear hxa hxb hla' hlb' hia hib
         by_cases hw : (rd_L1 (rd_L2 l0 k) 0).length = (rd_L1 (rd_L2 l1 k) 0).length
         ·have hw1 : (((rd_L1 (rd_L2 l0 k) 0).length : Int) != ((rd_L1 (rd_L2 l1 k) 0).length : Int)) = false := by rw [hw]; simp
          have HV : Hid ((!okK l0 l1 k) = false) := by unfold Hid; rw [HOK.out]; simp [hw]
          clear hw
          go_quiet (fail)
          exact ⟨nq, _, _, _, _, _, _, _, _, _, _, _, _, _, _, _, _, _, _, _, _, _, _, _, _, _, _, _, _, _, _, by rw [HV.out], rfl⟩
         ·have hw1 : (((rd_L1 (rd_L2 l0 k) 0).length : Int) != ((rd_L1 (rd_L2 l1 k) 0).length : Int)) = true := by rw [bne_iff_ne]; omega
          have HV : Hid ((!okK l0 l1 k) = true) := by unfold Hid; rw [HOK.out]; simp [ha, hb, hw]
          clear hw
          go_quiet (fail)
          exact ⟨nq, _, _, _, _, _, _, _, _, _, _, _, _, _, _, _, _, _, _, _, _, _, _, _, _, _, _, _, _, _, _, by rw [HV.out], rfl⟩
        ·have hb1 : decide ((0 : Int) < ((rd_L2 l1 k).length : Int)) = false := decide_eq_false (by omega)
         have HV : Hid ((!okK l0 l1 k) = false) := by unfold Hid; rw [HOK.out]; simp [hb]
         clear hxa hla' hia
         go_quiet (fail)
         exact ⟨nq, _, _, _, _, _, _, _, _, _, _, _, _, _, _, _, _, _, _, _, _, _, _, _, _, _, _, _, _, _, _, by rw [HV.out], rfl⟩
       ·have ha1 : decide ((0 : Int) < ((rd_L2 l0 k).length : Int)) = false := decide_eq_false (by omega)
        have HV : Hid ((!okK l0 l1 k) = false) := by unfold Hid; rw [HOK.out]; simp [ha]
        go_quiet (fail)
        exact ⟨nq, _, _, _, _, _, _, _, _, _, _, _, _, _, _, _, _, _, _, _, _, _, _, _, _, _, _, _, _, _, _, by rw [HV.out], rfl⟩
      ·rintro a' W' ⟨nq, q29, q30, q31, q32, q33, q34, q35, q36, q37, q38, q39, q40, q41, q42, q43, q44, q45, q46, q47, q48, q49, q50, q51, q52, q53, q54, q55, q56, q57, q58, rfl, rfl⟩
       by_cases hok : okK l0 l1 k = true
       ·have hok1 : (!okK l0 l1 k) = false := by rw [hok]; rfl
        have HOK1 := Lib.hid hok; rw [hok1]; clear hok hok1
        have HROW := A_ (show ∀ i : Nat, i < (rd_L2 l0 k).length → i < (rd_L2 l1 k).length → (rd_L1 (rd_L2 l0 k) i).length ≤ 100000 ∧ (rd_L1 (rd_L2 l0 k) i).length ≤ (rd_L1 (rd_L2 l1 k) i).length from by
         intro i h1 h2; have h3 := HOK1.out; rw [HOK.out] at h3
         have ha : 0 < (rd_L2 l0 k).length := by omega
         have hb : 0 < (rd_L2 l1 k).length := by omega
         simp [ha, hb] at h3
         have h4 := HS0.out.2 i h1; have h5 := HS1.out.2 i h2
         omega)
        have HSA := A_ (fun (W' : World) (hb : Below w.heap.size w W') => (same_any Aa Ab ca cb (rd_L2 l0 k) (rd_L2 l1 k) W' (Kd.C_below HI0.out hb) (Kd.C_below HJ0.out hb) (by omega) (by omega) HROW.out).mono (R' := fun e w' => e = .returned (.int .i64 (sameM (rd_L2 l0 k) (rd_L2 l1 k))) ∧ w' = W') (fun e w' h => ⟨h.1, h.2.symm⟩)); have hsm1 : sameM (rd_L2 l0 k) (rd_L2 l1 k) ≤ (rd_L2 l0 k).length := Nat.le_trans (bestOf_le _ _ _) (Nat.min_le_left _ _); have hsm2 : sameM (rd_L2 l0 k) (rd_L2 l1 k) ≤ (rd_L2 l1 k).length := Nat.le_trans (bestOf_le _ _ _) (Nat.min_le_right _ _); have HBn := A_ (pw_below_drewN HG.out.bel nq); go_wp2; obtain ⟨W9, hW9⟩ : ∃ W9, W9 = W.drewN nq := ⟨_, rfl⟩
        have hx9 : W9.cell? (ad.add k) = some (.slice Aa (rd_L2 l0 k).length ca) := by rw [hW9]; exact hx1
        have hy9 : W9.cell? (bd.add k) = some (.slice Ab (rd_L2 l1 k).length cb) := by rw [hW9]; exact hy1
        have HG9 : Aside0 (DiffG w w2.heap.size l0 l1 k Ds v W9) := by
         rw [hW9]; exact ⟨⟨HG.out.le, HG.out.marks.below (pw_below_drewN (Below.refl _ _) _), HG.out.box, Kd.R_drewN HG.out.row _, pw_below_drewN HG.out.bel _, HG.out.good⟩⟩
        rw [← hW9] at HBn ⊢; clear hW9 hx1 hy1 HG; refine wp_region_still_tail 18 (by kernel_rfl) (by kernel_rfl) ?_; simp only [List.take_succ_cons, List.take_zero, List.drop_succ_cons, List.drop_zero]
        repeat still_step
        still_call (HSA.out _ (below_drew HBn.out))
        repeat still_step
        try refine wpStill_nil ?_
        change wpList _ _ _ _ _ W9.drew
        go_wp2_with (go_at_call 38; refine (changes_any _ _ _ _ _ _ _ _ _).mono ?_; rintro e w3 ⟨rfl, rfl⟩)
        have hW9 : w.heap.size ≤ W9.heap.size := HBn.out.size; obtain ⟨W10, hW10⟩ : ∃ W10, W10 = ((((W9.alloc (.cells #[.int .i64 k] 3)).alloc (.cells #[.slice Aa (rd_L2 l0 k).length ca] 64)).alloc (.cells #[.slice Ab (rd_L2 l1 k).length cb] 64)).alloc (.cells #[.int .i64 (sameM (rd_L2 l0 k) (rd_L2 l1 k) : Nat)] 3)).drew := ⟨_, rfl⟩
        have hsz10 : W10.heap.size = W9.heap.size + 4 := by rw [hW10]; simp
        have hb10 : Below W9.heap.size W9 W10 := by rw [hW10]; exact below_drew (below_alloc (below_alloc (below_alloc (below_alloc (Below.refl _ _) _) _) _) _)
        have hk10 : W10.heap[W9.heap.size]? = some (.cells #[.int .i64 k] 3 (0, 0)) := by
         rw [hW10]
         show ((((W9.alloc (.cells #[.int .i64 k] 3)).alloc (.cells #[.slice Aa (rd_L2 l0 k).length ca] 64)).alloc (.cells #[.slice Ab (rd_L2 l1 k).length cb] 64)).alloc (.cells #[.int .i64 (sameM (rd_L2 l0 k) (rd_L2 l1 k) : Nat)] 3)).heap[W9.heap.size]? = _
         rw [Below.heap_alloc _ _ _ (by simp; omega), Below.heap_alloc _ _ _ (by simp; omega), Below.heap_alloc _ _ _ (by simp)]; exact heap_alloc_new W9 _
        have ha10 : W10.heap[W9.heap.size + 1]? = some (.cells #[.slice Aa (rd_L2 l0 k).length ca] 64 (0, 0)) := by
         rw [hW10]
         show ((((W9.alloc (.cells #[.int .i64 k] 3)).alloc (.cells #[.slice Aa (rd_L2 l0 k).length ca] 64)).alloc (.cells #[.slice Ab (rd_L2 l1 k).length cb] 64)).alloc (.cells #[.int .i64 (sameM (rd_L2 l0 k) (rd_L2 l1 k) : Nat)] 3)).heap[W9.heap.size + 1]? = _
         rw [Below.heap_alloc _ _ _ (by simp), Below.heap_alloc _ _ _ (by simp)]; have := heap_alloc_new (W9.alloc (.cells #[.int .i64 k] 3)) (.cells #[.slice Aa (rd_L2 l0 k).length ca] 64)
         simpa using this
        have hb10' : W10.heap[W9.heap.size + 2]? = some (.cells #[.slice Ab (rd_L2 l1 k).length cb] 64 (0, 0)) := by
         rw [hW10]
         show ((((W9.alloc (.cells #[.int .i64 k] 3)).alloc (.cells #[.slice Aa (rd_L2 l0 k).length ca] 64)).alloc (.cells #[.slice Ab (rd_L2 l1 k).length cb] 64)).alloc (.cells #[.int .i64 (sameM (rd_L2 l0 k) (rd_L2 l1 k) : Nat)] 3)).heap[W9.heap.size + 2]? = _
         rw [Below.heap_alloc _ _ _ (by simp)]; have := heap_alloc_new ((W9.alloc (.cells #[.int .i64 k] 3)).alloc (.cells #[.slice Aa (rd_L2 l0 k).length ca] 64)) (.cells #[.slice Ab (rd_L2 l1 k).length cb] 64)
         simpa using this
        have hm10 : W10.heap[W9.heap.size + 3]? = some (.cells #[.int .i64 (sameM (rd_L2 l0 k) (rd_L2 l1 k) : Nat)] 3 (0, 0)) := by
         rw [hW10]
         show ((((W9.alloc (.cells #[.int .i64 k] 3)).alloc (.cells #[.slice Aa (rd_L2 l0 k).length ca] 64)).alloc (.cells #[.slice Ab (rd_L2 l1 k).length cb] 64)).alloc (.cells #[.int .i64 (sameM (rd_L2 l0 k) (rd_L2 l1 k) : Nat)] 3)).heap[W9.heap.size + 3]? = _
         have := heap_alloc_new (((W9.alloc (.cells #[.int .i64 k] 3)).alloc (.cells #[.slice Aa (rd_L2 l0 k).length ca] 64)).alloc (.cells #[.slice Ab (rd_L2 l1 k).length cb] 64)) (.cells #[.int .i64 (sameM (rd_L2 l0 k) (rd_L2 l1 k) : Nat)] 3)
         simpa using this
        rw [← hW10]; clear hW10 hx9 hy9; have hbB : Below w.heap.size w W10 := HBn.out.trans (hb10.mono hW9); have hdl := diffL_le HB0.out HB1.out k (by omega) (by omega); have hl06 := shaped_six HB0.out
        refine wpIn_wide.1 (wpIn_range_on (n := 5) (α := Yd) rfl (by omega) (gf := 64) (lb := #[.pointer (some ⟨W9.heap.size + 3, 0, none⟩), .pointer (some ⟨W9.heap.size + 1, 0, none⟩), .pointer (some ⟨W9.heap.size + 2, 0, none⟩), .pointer (some ⟨W9.heap.size, 0, none⟩)]) rfl trivial (enters_of Try.func64 (by kernel_rfl) rfl)
         (enc := Yd.enc) (T := Yd.T w.heap.size) (S := fun xs _ => xs.map (·.1) = chgs k (rd_L2 l0 k) (rd_L2 l1 k) (sameM (rd_L2 l0 k) (rd_L2 l1 k))) (N := 100000000000) (B := w.heap.size) (ts := [30, 61]) (tI := [4]) (by omega)
         (fun L => ?iter) (fun x => rfl)
         (fun s W => DiffJ w w2.heap.size l0 l1 k Ds s W)
         (fun x a1 W => ∃ b8, W.heap[b8]? = some (.cells x.cells 61 (0, 0)) ∧ a1 = { tmps := #[.slice (some ad) l0.length c0, .slice (some bd) l1.length c1, undef, undef, .slice none 0 0, .int .i64 0, .pointer (some ⟨w2.heap.size, 0, none⟩), .int .i64 k, .pointer (some ⟨b8, 0, none⟩), .slice (some ad) l0.length c0, .bool true, .bool false, .bool false, .slice (some bd) l1.length c1, .bool true, .bool false, .bool false, .bool false, .slice (some ad) l0.length c0, .int .i64 l0.length, .slice (some bd) l1.length c1, .int .i64 l1.length, .bool false, .bool false, .slice (some ad) l0.length c0, .int .i64 l0.length, .int .i64 k, .bool true, .int .i64 k, q29, q30, q31, q32, q33, q34, q35, q36, q37, q38, q39, q40, q41, q42, q43, q44, q45, q46, q47, q48, q49, q50, q51, q52, q53, q54, q55, q56, q57, q58, .bool false, .int .i64 k, .slice (some ad) l0.length c0, .int .i64 k, .pointer (some (ad.add k)), .slice Aa (rd_L2 l0 k).length ca, .slice (some bd) l1.length c1, .int .i64 k, .pointer (some (bd.add k)), .slice Ab (rd_L2 l1 k).length cb, .slice (some ad) l0.length c0, .int .i64 k, .pointer (some (ad.add k)), .slice Aa (rd_L2 l0 k).length ca, .slice (some bd) l1.length c1, .int .i64 k, .pointer (some (bd.add k)), .slice Ab (rd_L2 l1 k).length cb, .int .i64 (sameM (rd_L2 l0 k) (rd_L2 l1 k) : Nat), .func (.func 64) #[] #[.pointer (some ⟨W9.heap.size + 3, 0, none⟩), .pointer (some ⟨W9.heap.size + 1, 0, none⟩), .pointer (some ⟨W9.heap.size + 2, 0, none⟩), .pointer (some ⟨W9.heap.size, 0, none⟩)], .agg x.cells, u80, u81, u82, u83, u84, undef], defers := [] })
         ?hI ?hT (fun _ _ _ h _ => h) ?hAx ?h0 ?assign ?body ?done)
        case iter =>
         have hb12 : Below W10.heap.size W10 ((W10.alloc (.deferred (some []))).alloc (.loop L)) := below_alloc (below_alloc (Below.refl _ _) _) _
         have q : ∀ i o, W10.heap[i]? = some o → ((W10.alloc (.deferred (some []))).alloc (.loop L)).heap[i]? = some o := fun i o hi => (hb12.block i (Array.getElem?_eq_some_iff.1 hi).1).trans hi
         exact changes1_iterates _ w _ _ k _ Aa Ab ca cb (rd_L2 l0 k) (rd_L2 l1 k) _ _ _ _ (q _ _ hm10) (q _ _ ha10) (q _ _ hb10') (q _ _ hk10) (hbB.trans (hb12.mono (by omega))) HI0.out HJ0.out hsm1 hsm2
          (fun i hi => (HROW.out i (by omega) (by omega)).2) (fun i hi => by have := (HS0.out.2 i hi).2.2; omega) (fun i hi => by have := (HS1.out.2 i hi).2.2; omega) (by omega) (by omega) (fun i hi => (HROW.out i (by omega) (by omega)).1)
        case hI =>
         rintro s A C ⟨v', hm, hb, hr, hB⟩ hst; exact ⟨v', hm.stepI hst (fun D hD => by have := HG9.out.marks.lt D hD; omega), hst.other hb (by decide), R_stepI hr hst (by decide), hst.below hB (Nat.le_refl _) (by omega)⟩
        case hT =>
         rintro x A C h hst; exact R_stepI (d := Kd.int .i64) h hst (by decide)
        case hAx =>
         rintro x a1 A C ⟨b8, h8, e⟩ hst; exact ⟨b8, hst.other h8 (by decide), e⟩
        case h0 =>
         exact ⟨v, HG9.out.marks.below hb10, (hb10.block _ (blk_lt HG9.out.box)).trans HG9.out.box, by simpa using Kd.R_below HG9.out.row hb10, hbB⟩
        case assign =>
         rintro l pre ⟨s, vs⟩ W K ⟨v', hm, hbx, hr, hB⟩ ht hK; obtain ⟨As, cs, es⟩ : ∃ As cs, vs = .slice As s.f5.length cs := Kd.R_slice ht; subst es; have hal : Below W.heap.size W (W.alloc (.cells (Yd.cells (s, .slice As s.f5.length cs)) 61)) := below_alloc (Below.refl _ _) _; have HK := A_ (hK { tmps := #[.slice (some ad) l0.length c0, .slice (some bd) l1.length c1, undef, undef, .slice none 0 0, .int .i64 0, .pointer (some ⟨w2.heap.size, 0, none⟩), .int .i64 k, .pointer (some ⟨W.heap.size, 0, none⟩), .slice (some ad) l0.length c0, .bool true, .bool false, .bool false, .slice (some bd) l1.length c1, .bool true, .bool false, .bool false, .bool false, .slice (some ad) l0.length c0, .int .i64 l0.length, .slice (some bd) l1.length c1, .int .i64 l1.length, .bool false, .bool false, .slice (some ad) l0.length c0, .int .i64 l0.length, .int .i64 k, .bool true, .int .i64 k, q29, q30, q31, q32, q33, q34, q35, q36, q37, q38, q39, q40, q41, q42, q43, q44, q45, q46, q47, q48, q49, q50, q51, q52, q53, q54, q55, q56, q57, q58, .bool false, .int .i64 k, .slice (some ad) l0.length c0, .int .i64 k, .pointer (some (ad.add k)), .slice Aa (rd_L2 l0 k).length ca, .slice (some bd) l1.length c1, .int .i64 k, .pointer (some (bd.add k)), .slice Ab (rd_L2 l1 k).length cb, .slice (some ad) l0.length c0, .int .i64 k, .pointer (some (ad.add k)), .slice Aa (rd_L2 l0 k).length ca, .slice (some bd) l1.length c1, .int .i64 k, .pointer (some (bd.add k)), .slice Ab (rd_L2 l1 k).length cb, .int .i64 (sameM (rd_L2 l0 k) (rd_L2 l1 k) : Nat), .func (.func 64) #[] #[.pointer (some ⟨W9.heap.size + 3, 0, none⟩), .pointer (some ⟨W9.heap.size + 1, 0, none⟩), .pointer (some ⟨W9.heap.size + 2, 0, none⟩), .pointer (some ⟨W9.heap.size, 0, none⟩)], .agg (Yd.cells (s, .slice As s.f5.length cs)), u80, u81, u82, u83, u84, undef], defers := [] } (W.alloc (.cells (Yd.cells (s, .slice As s.f5.length cs)) 61)) (KeepBody.alloc _ _ _ _) ⟨v', hm.below hal, (hal.block _ (blk_lt hbx)).trans hbx, Kd.R_below hr hal, below_then hB hB.size hal⟩ (Kd.R_below ht hal) ⟨W.heap.size, heap_alloc_new W _, rfl⟩); clear hm hbx hr hB ht hK hal; simp only [Yd.enc, Yd.cells] at HK ⊢
         gi_wp2
         exact HK.out
        case body =>
         rintro l pre ⟨s, vs⟩ a1 W ⟨v', hm, hbx, hr, hB⟩ hlen ht ⟨b8, h8, rfl⟩; obtain ⟨As, cs, es⟩ : ∃ As cs, vs = .slice As s.f5.length cs := Kd.R_slice ht; subst es; obtain ⟨Av, cv, ev⟩ := Kd.R_slice hr; obtain ⟨nv, hnv⟩ : ∃ nv, nv = (diffL l0 l1 k ++ pre.map (·.1)).length := ⟨_, rfl⟩; rw [← hnv] at ev; subst ev; clear hnv; have hcb := cell_of_row _ _ 0 _ 30 (0, 0) hbx; simp only [Yd.cells] at h8; have hc0 := cell_of_row _ _ 0 _ 61 (0, 0) h8; have hc1 := cell_of_row _ _ 1 _ 61 (0, 0) h8; have hc2 := cell_of_row _ _ 2 _ 61 (0, 0) h8; have hc3 := cell_of_row _ _ 3 _ 61 (0, 0) h8; have hc4 := cell_of_row _ _ 4 _ 61 (0, 0) h8; have hc5 := cell_of_row _ _ 5 _ 61 (0, 0) h8; have hu61 := Try.underlying61; have HMP := A_ (M_ne (k61_mkM W w.heap.size (fun _ => True) s ht) hr); have HR9 := A_ hr; have HM9 := A_ hm; have HB9 := A_ hB; have HBX := A_ hbx
         have hlx : ((diffL l0 l1 k ++ pre.map (·.1)).length + 1) * 64 ≤ 140737488355328 := by
          rw [List.length_append, List.length_map]; omega
         have HLX := A_ hlx; clear hm hbx hr hB ht h8 hlx
         have HEND := A_ (show ∀ v1 w1, Kd.R k61 61 w1 w.heap.size (fun _ => True) v1 ((diffL l0 l1 k ++ pre.map (·.1)) ++ [s]) → (W.alloc (.cells ([.int .i64 s.f0, .int .i64 s.f1, .int .i64 s.f2, .int .i64 s.f3, .int .i64 s.f4, .slice As s.f5.length cs] : List Value).toArray 61)).grownBy w1 (.slice Av nv cv : Value).ownBlock →
           w1.heap[w2.heap.size]? = some (.cells #[.slice Av nv cv] 30 (0, 0)) ∧
           KeepBody w.heap.size [30, 61] W (w1.setCell ⟨w2.heap.size, 0, none⟩ v1) ∧ DiffJ w w2.heap.size l0 l1 k Ds (pre ++ [((s, .slice As s.f5.length cs) : Yd)]) (w1.setCell ⟨w2.heap.size, 0, none⟩ v1) from by
          intro v1 w1 hr1 hg1; have hal : Below W.heap.size W (W.alloc (.cells ([.int .i64 s.f0, .int .i64 s.f1, .int .i64 s.f2, .int .i64 s.f3, .int .i64 s.f4, .slice As s.f5.length cs] : List Value).toArray 61)) := below_alloc (Below.refl _ _) _; have hne := Kd.R_ne HR9.out HBX.out (by decide); have hlt1 := blk_lt HBX.out; have hbx1 : w1.heap[w2.heap.size]? = some (.cells #[.slice Av nv cv] 30 (0, 0)) := (hg1.block _ (by have := hal.size; omega) hne).trans ((hal.block _ hlt1).trans HBX.out)
          have hrow : ∀ r, (.slice Av nv cv : Value).ownBlock = some r → w.heap.size ≤ r := fun r e => Kd.R_base HR9.out r e
          have hkb : KeepBody w.heap.size [30, 61] W (w1.setCell ⟨w2.heap.size, 0, none⟩ v1) :=
           ((KeepBody.alloc _ _ _ _).trans (KeepBody.grown hg1 (fun r e => ⟨hrow r e, fun o ho => by
            obtain ⟨cells, hc⟩ := Kd.R_typed (Kd.R_below HR9.out hal) r e; rw [hc] at ho
            injection ho with ho
            exact ⟨cells, 61, (0, 0), ho.symm, by decide⟩⟩))).trans (KeepBody.setCell _ hbo (fun o ho => by
            rw [show ((⟨w2.heap.size, 0, none⟩ : Addr).block) = w2.heap.size from rfl, hbx1] at ho
            injection ho with ho
            exact ⟨_, 30, (0, 0), ho.symm, by decide⟩))
          refine ⟨hbx1, hkb, v1, HM9.out.later (fun i o hi ho => hkb.same i o hi (.inr (.inl ho))), ?_, ?_, ?_⟩
          ·have := blk_set hbx1 0 v1
           simpa using this
          ·have := Kd.R_set hr1 hbx1 (by decide) 0 v1
           simpa using this
          ·exact (((HB9.out.trans (hal.mono HB9.out.size)).grown hg1 (Nat.le_trans HB9.out.size hal.size) (fun r e => hrow r e)).setCell (p := ⟨w2.heap.size, 0, none⟩) hbo v1))
         gi_wp2_with ((gi_at_builtin; refine R_append_in k61 (W := W) w.heap.size rfl (.tmp 80) (.tmp 82) 30 61 (.agg #[(.int .i64 0), (.int .i64 0), (.int .i64 0), (.int .i64 0), (.int .i64 0), (.slice none 0 0)]) 64 rfl Try.underlying30 info61 rfl (by decide) (by omega) (.slice Av nv cv) (diffL l0 l1 k ++ pre.map (·.1)) s [.int .i64 s.f0, .int .i64 s.f1, .int .i64 s.f2, .int .i64 s.f3, .int .i64 s.f4, .slice As s.f5.length cs] (fun _ => True) (fun k_ => True ∧ some k_ ≠ (.slice Av nv cv : Value).ownBlock) rfl rfl HMP.out (fun _ hk => hk) (fun _ _ => trivial) HR9.out HB9.out.size HLX.out ?_; intro v1 w1 hr1 hg1 hv1; obtain ⟨A1, c1', e1⟩ := hv1; obtain ⟨n1, hn1⟩ : ∃ n1, n1 = (diffL l0 l1 k ++ pre.map (·.1)).length + 1 := ⟨_, rfl⟩; rw [← hn1] at e1; subst e1; clear hn1; have HE := HEND.out _ w1 hr1 hg1; obtain ⟨hbx1, hE2⟩ := HE; have HE2 := A_ hE2; have hcb1 := cell_of_row _ _ 0 _ 30 (0, 0) hbx1; have hfb1 : w1.frozen? ⟨w2.heap.size, 0, none⟩ = false := (by simp [World.frozen?, hbx1]); clear hbx1 hE2 hr1 hg1))
         exact HE2.out
        case done =>
         rintro D xs W hD hxs ⟨v', hm, hbx, hr, hB⟩ hDD; rw [hxs, ← diffL_snoc] at hr
         have HFIN := A_ (show DiffG w w2.heap.size l0 l1 (k + 1) (D :: Ds) v' W from ⟨by omega, hm.cons (by omega) hDD (fun hmem => by have := HG9.out.marks.lt D hmem; omega), hbx, hr, hB, fun j hj => by
          rcases Nat.lt_or_ge j k with h | h
          (· exact HG9.out.good j h)
          ·rw [show j = k from by omega]; exact HOK1.out⟩)
         clear hm hbx hr hB hDD hxs; go_wp2; refine ⟨⟨k + 1, D :: Ds, v', _, _, _, _, _, _, _, _, _, _, _, _, _, _, _, _, _, _, _, _, _, _, _, _, _, _, _, _, _, _, _, _, _, _, _, _, _, _, _, _, _, _, _, _, _, _, _, _, _, _, _, _, _, _, _, _, _, _, _, _, rfl, HFIN.out⟩, ?_⟩
         simp [intOf]
         omega
       ·have hok1 : (!okK l0 l1 k) = true := by simpa using hok
        have HF : Hid (diffR l0 l1 = ([], 2)) := by
         have : okK l0 l1 k = false := by simpa using hok
         unfold Hid diffR; rw [if_neg]; simp only [Bool.and_eq_true, not_and, Bool.not_eq_true, List.all_eq_false]; intro _; exact ⟨k, List.mem_range.2 hlt, by rw [this]⟩
        rw [hok1]; clear hok hok1; go_wp2; rw [HF.out]; exact diff_leave w _ _ Ds _ (.slice none 0 0) rfl rfl (HG.out.marks.below (pw_below_drewN (Below.refl _ _) _)) (Kd.R_nil _ _ _ _ _) (pw_below_drewN HG.out.bel _)
     ·have hbx := cell_of_row _ _ 0 _ 30 (0, 0) HG.out.box
      have hneg : ¬ ((k : Int) < (l0.length : Int)) := by omega
      have HF : Hid (diffR l0 l1 = (diffL l0 l1 k, 0)) := by
       unfold Hid diffR; rw [HB0.out, HB1.out, show l0.length = k from by omega]
       have : (List.range k).all (okK l0 l1) = true := by
        rw [List.all_eq_true]; intro j hj; exact HG.out.good j (List.mem_range.1 hj)
       rw [this]
       have : decide (k = l1.length) = true := by have := HLL.out; simp; omega
       rw [this]; rfl
      go_wp2; rw [HF.out]; exact diff_leave w _ _ Ds W v rfl rfl HG.out.marks HG.out.row HG.out.bel
   ·have hne : ((l0.length : Int) != (l1.length : Int)) = true := by rw [bne_iff_ne]; omega
    have HF : Hid (diffR l0 l1 = ([], 2)) := by unfold Hid diffR; rw [if_neg (by simp [hll])]
    go_wp2_with fail
    refine H0.out.mono ?_; rintro e w1 ⟨rfl, hb⟩; have HB := A_ hb; clear hb
    go_wp2_with fail
    refine (H1.out _ HB.out).mono ?_; rintro e w2 ⟨rfl, hb⟩; have HB2 := A_ (HB.out.trans (hb.mono HB.out.size)); clear hb; go_wp2; rw [HF.out]; exact diff_leave w _ _ [] w2 _ rfl rfl (Marked.nil _ _) (Kd.R_nil _ _ _ _ _) HB2.out
theorem diff_Diff.calls (A0 : Option Addr) (c0 : Nat) (l0 : List (List (List Int))) (A1 : Option Addr) (c1 : Nat) (l1 : List (List (List Int))) (r1 : List S61) (r2 : Int) (w : World) (hr0 : Kd.C (Kd.slice 22 (Kd.slice 3 (Kd.int .i64))) w A0 l0.length l0) (hc0 : l0.length ≤ c0)
  (hr1 : Kd.C (Kd.slice 22 (Kd.slice 3 (Kd.int .i64))) w A1 l1.length l1) (hc1 : l1.length ≤ c1) (h : diff_Diff.f l0 l1 = some (r1, r2)) :
  Calls Try.prog 14 #[.slice A0 l0.length c0, .slice A1 l1.length c1] w fun e w' => ∃ v0_ : Value, e = .returned (.tuple #[v0_, .int .i64 r2]) ∧ Kd.N k61 61 w' w.heap.size (fun k_ => w.heap.size ≤ k_) v0_ r1 ∧ Below w.heap.size w w' := by
 unfold diff_Diff.f at h
 split at h
 (· rename_i hs; have e := Option.some.inj h; have := diff_in A0 c0 l0 A1 c1 l1 w hr0 hc0 hr1 hc1 hs.1 hs.2; rw [e] at this; exact this)
 ·cases h
end Go.Proofs.Ytcgpemefmakjiaa.PX
namespace Go.Proofs.Ytcgpemefmakjiaa.PX
open Go.RowKit Go.Proofs.YtcgpemefmakjiaaW.PrintWords Go.Proofs.YtcgpemefmakjiaaW.PrintLast Go.Proofs.YtcgpemefmakjiaaW.PrintMore
namespace Lives
def la : Wd := [[[1, 2], [3, 4]]]
def lb : Wd := [[[1, 5], [3, 4], [6, 7]]]
def lc : Wd := [[[1, 2], [5, 6]]]
def ld : Wd := [[[1, 2, 3], [4, 5, 6]]]
def le : Wd := [[[1, 2, 3], [7, 8, 9]]]
def d1 : List S61 := [⟨0, 0, 1, 2, 5, []⟩, ⟨0, 2, -1, 0, 0, [6, 7]⟩]
def d2 : List S61 := [⟨0, 1, 0, 3, 5, []⟩, ⟨0, 1, 1, 4, 6, []⟩]
def d3 : List S61 := [⟨0, 1, -2, 0, 0, [4, 5, 6]⟩, ⟨0, 1, -1, 0, 0, [7, 8, 9]⟩]
def p1 : List S76 := [⟨0, 0, 1, 2, 5, []⟩, ⟨0, 2, -1, 0, 0, [6, 7]⟩]
theorem e1 : diff_Diff.f la lb = some (d1, 0) := by rfl
theorem e2 : diff_Diff.f la lc = some (d2, 0) := by rfl
theorem e3 : diff_Diff.f ld le = some (d3, 0) := by rfl
theorem e4 : diff_Apply.f la d1 = some (lb, 0) := by rfl
theorem e5 : dioramaref36_SameWorld.f 20 lb lb = some true := by kernel_rfl
theorem e6 : dioramalaw36_plain.f 20 d1 = some p1 := by kernel_rfl
theorem e7 : dioramaref36_SameAll.f 20 p1 p1 = some true := by kernel_rfl
def AllR {α β : Type} (R : α → β → Prop) : List α → List β → Prop
 | [], [] => True
 | a :: l, b :: m => R a b ∧ AllR R l m
 | _, _ => False
theorem AllR.reps {α : Type} {R : Value → α → Prop} : ∀ {vs : List Value} {xs : List α}, AllR R vs xs → Reps (fun x c => ∃ v, c = [v] ∧ R v x) 1 xs vs
 | [], [], _ => ⟨rfl, fun j p h => by simp at h⟩
 | a :: l, b :: m, h => by
  have ih := AllR.reps h.2; refine ⟨by simp only [List.length_cons]; have := ih.1; omega, fun j p hj => ?_⟩
  cases j with
  | zero =>
   have : b = p := by simpa using hj
   subst this; exact ⟨a, by simp, h.1⟩
  | succ j =>
   have := ih.2 j p (by simpa using hj)
   have e : (j + 1) * 1 = j * 1 + 1 := by omega
   rw [e, List.drop_succ_cons]; exact this
 | [], _ :: _, h => h.elim
 | _ :: _, [], h => h.elim
theorem lit_row {α : Type} {d : Kd α} {W : World} {g : Nat} {cs : Array Value} {t : TypeId} {xs : List α} (h : W.heap[g]? = some (.cells cs t (0, 0))) (hm : xs.length ≤ 9223372036854775807) (hr : Reps (d.K W) d.sz xs cs.toList) : Kd.C d W (some ⟨g, 0, none⟩) xs.length xs := by
 refine ⟨rfl, hm, fun _ => ⟨_, rfl, fun j p hj => ⟨(cs.toList.drop (j * d.sz)).take d.sz, d.K_len (hr.2 j p hj), hr.2 j p hj, fun i u hi => ?_⟩⟩⟩; rw [add_head, cell_of_row W g _ cs t (0, 0) h]; rw [List.getElem?_take] at hi
 split at hi
 ·rw [List.getElem?_drop] at hi
  simpa using hi
 ·cases hi
theorem lit3 {W : World} {g : Nat} {cs : Array Value} {t : TypeId} {xs : List Int} (h : W.heap[g]? = some (.cells cs t (0, 0))) (hm : xs.length ≤ 9223372036854775807) (hr : AllR (fun v x => v = Value.int .i64 x) cs.toList xs) : Kd.C (Kd.int .i64) W (some ⟨g, 0, none⟩) xs.length xs :=
 lit_row h hm (hr.reps.imp_ (fun x c ⟨v, hc, hv⟩ => by subst hv; exact hc))
theorem litS {α : Type} {d : Kd α} {e : Nat} {W : World} {g : Nat} {cs : Array Value} {t : TypeId} {xs : List (List α)} (h : W.heap[g]? = some (.cells cs t (0, 0))) (hm : xs.length ≤ 9223372036854775807)
  (hr : AllR (fun v (x : List α) => ∃ A c, v = Value.slice A x.length c ∧ x.length ≤ c ∧ Kd.C d W A x.length x) cs.toList xs) : Kd.C (Kd.slice e d) W (some ⟨g, 0, none⟩) xs.length xs :=
 lit_row h hm (hr.reps.imp_ (fun x c ⟨v, hc, A, c', hv, h1, h2⟩ => by subst hv; exact ⟨A, c', hc, h1, h2⟩))
section
variable {P : Program} {ops : Array Oper} {rest : List Oper} {o : Oper} {a : Act} {Q : Exit → Act → World → Prop}
theorem lit_event {W : World} (hgd : o.guard = none) {N : Tmp} (_hd : o.dst = some N) {cs : Array Value} {t : TypeId} {n : Nat}
  (hrun : (execOp a.eval o).run P W = .ok (.value (.slice (some ⟨W.heap.size, 0, none⟩) n n)) (W.alloc (.cells cs t (0, 0))))
  (h : ∀ g, g = W.heap.size → ∀ w1, w1.heap[g]? = some (.cells cs t (0, 0)) → Below W.heap.size W w1 → wpList P ops Q rest (a.put o.dst (.slice (some ⟨g, 0, none⟩) n n)) w1) : wpList P ops Q (o :: rest) a W :=
 Kd.event_run hgd hrun (h _ rfl _ (blk_new W _) (below_alloc (Below.refl _ _) _))
end
abbrev CW (w : World) (g : Nat) (l : Wd) : Prop := Kd.C (Kd.slice 22 (Kd.slice 3 (Kd.int .i64))) w (some ⟨g, 0, none⟩) 1 l
def DPost (w : World) (d : List S61) (n : Nat) (e : Ending) (w' : World) : Prop := ∃ A c, e = .returned (.tuple #[.slice A n c, .int .i64 0]) ∧ Kd.N k61 61 w' w.heap.size (fun k_ => w.heap.size ≤ k_) (.slice A n c) d ∧ Below w.heap.size w w'
theorem diff_lit {la lb : Wd} {d : List S61} {n : Nat} (g h : Nat) (w : World) (hl : la.length = 1) (hm : lb.length = 1) (hn : d.length = n) (he : diff_Diff.f la lb = some (d, 0)) (hA : CW w g la) (hB : CW w h lb) :
  Calls Try.prog 14 #[.slice (some ⟨g, 0, none⟩) 1 1, .slice (some ⟨h, 0, none⟩) 1 1] w (DPost w d n) := by
 have := diff_Diff.calls (some ⟨g, 0, none⟩) 1 la (some ⟨h, 0, none⟩) 1 lb d 0 w (by rw [hl]; exact hA) (by omega) (by rw [hm]; exact hB) (by omega) he; rw [hl, hm] at this; refine this.mono ?_; rintro e w' ⟨v, rfl, h1, h2⟩; obtain ⟨A, c, rfl⟩ := Kd.N_slice h1; rw [hn] at h1 ⊢; exact ⟨A, c, rfl, h1, h2⟩
def APost (w : World) (l : Wd) (e : Ending) (w' : World) : Prop := ∃ A c, e = .returned (.tuple #[.slice A 1 c, .int .i64 0]) ∧ Kd.C (Kd.slice 22 (Kd.slice 3 (Kd.int .i64))) w' A 1 l ∧ 1 ≤ c ∧ Below w.heap.size w w'
theorem apply_lit (g : Nat) (A : Option Addr) (c : Nat) (w : World) (hA : CW w g la) (hB : Kd.C k61 w A 2 d1) (hc : 2 ≤ c) : Calls Try.prog 19 #[.slice (some ⟨g, 0, none⟩) 1 1, .slice A 2 c] w (APost w lb) := by
 have := diff_Apply.calls (some ⟨g, 0, none⟩) 1 la A c d1 lb 0 w hA (by decide) hB hc e4; refine this.mono ?_; rintro e w' ⟨v, rfl, h1, h2⟩; obtain ⟨A, c, rfl, h3, h4⟩ := Kd.R_reads h1; exact ⟨A, c, rfl, h4, h3, h2⟩
theorem same_lit (g : Nat) (A : Option Addr) (c : Nat) (w : World) (hA : Kd.C (Kd.slice 22 (Kd.slice 3 (Kd.int .i64))) w A 1 lb) (hc : 1 ≤ c) (hB : CW w g lb) : Calls Try.prog 21 #[.slice A 1 c, .slice (some ⟨g, 0, none⟩) 1 1] w fun e w' => e = .returned (.bool true) ∧ Drawn0 w w' :=
 dioramaref36_SameWorld.calls 20 A c lb (some ⟨g, 0, none⟩) 1 lb true w hA hc hB (by decide) e5
def PPost (w : World) (e : Ending) (w' : World) : Prop := ∃ A c, e = .returned (.slice A 2 c) ∧ Kd.C k76 w' A 2 p1 ∧ 2 ≤ c ∧ Below w.heap.size w w'
theorem plain_lit (A : Option Addr) (c : Nat) (w w1 : World) (base : Nat) (ok : Nat → Prop) (hA : Kd.N k61 61 w1 base ok (.slice A 2 c) d1) (hb : Below w1.heap.size w1 w) : Calls Try.prog 17 #[.slice A 2 c] w (PPost w) := by
 refine (dioramalaw36_plain.calls 20 ok A c d1 p1 w (Kd.V_below (Kd.N_V hA) hb) e6).mono ?_; rintro e w' ⟨v, rfl, h1, h2⟩; obtain ⟨A, c, rfl, h3, h4⟩ := Kd.N_reads h1; exact ⟨A, c, rfl, h4, h3, h2⟩
theorem all_lit (g : Nat) (A : Option Addr) (c : Nat) (w : World) (hA : Kd.C k76 w A 2 p1) (hc : 2 ≤ c) (hB : Kd.C k76 w (some ⟨g, 0, none⟩) 2 p1) : Calls Try.prog 16 #[.slice A 2 c, .slice (some ⟨g, 0, none⟩) 2 2] w fun e w' => e = .returned (.bool true) ∧ Below w.heap.size w w' :=
 dioramaref36_SameAll.calls 20 A c p1 (some ⟨g, 0, none⟩) 2 p1 true w hA hc hB (by decide) e7
theorem want {W : World} {g g85 : Nat} (h : W.heap[g]? = some (.cells #[.int .i64 0, .int .i64 0, .int .i64 1, .int .i64 2, .int .i64 5, .slice none 0 0, .int .i64 0, .int .i64 2, .int .i64 (-1), .int .i64 0, .int .i64 0, .slice (some ⟨g85, 0, none⟩) 2 2] 76 (0, 0))) (h85 : Kd.C (Kd.int .i64) W (some ⟨g85, 0, none⟩) 2 [6, 7]) : Kd.C k76 W (some ⟨g, 0, none⟩) 2 p1 :=
 lit_row h (by decide) ⟨rfl, fun j p hj => by
  rcases j with _ | _ | j
  (· obtain rfl := Option.some.inj hj; exact k76_mk W ⟨0, 0, 1, 2, 5, []⟩ (A5 := none) (c5 := 0) (by decide) ⟨rfl, by decide, fun h => absurd h (by decide)⟩); (· obtain rfl := Option.some.inj hj; exact k76_mk W ⟨0, 2, -1, 0, 0, [6, 7]⟩ (A5 := some ⟨g85, 0, none⟩) (c5 := 2) (by decide) h85)
  ·simp [p1] at hj⟩
set_option maxHeartbeats 4000000 in
set_option maxRecDepth 100000 in
theorem calls (w0 : World) : Calls Try.prog 18 #[] w0 fun e w' => e = .returned (.bool true) ∧ Below w0.heap.size w0 w' := by
 have hu61 := Try.underlying61; have hu76 := Try.underlying76
 go_enter Try.func18, Try.ntmps18
 go_upto_region 2 with (first
  | ((with_reducible refine gate_dst (N := 12) rfl ?_); refine lit_event ?hg (N := 12) ?hd (cs := #[.int .i64 1, .int .i64 2]) (t := 3) (n := 2) ?hr ?_; (case hd => rfl); (case hg => rfl); (case hr => first | (go_simp; done) | (go_simp; rfl)); intro g12 hgx w1 hbk hb; clear hgx; have B1 := A_ hb; have F12 : Aside0 (Kd.C (Kd.int .i64) w1 (some ⟨g12, 0, none⟩) 2 [1, 2]) := ⟨lit3 hbk (by decide) ⟨rfl, rfl, trivial⟩⟩; clear hb hbk)
  | ((with_reducible refine gate_dst (N := 13) rfl ?_); refine lit_event ?hg (N := 13) ?hd (cs := #[.int .i64 3, .int .i64 4]) (t := 3) (n := 2) ?hr ?_; (case hd => rfl); (case hg => rfl); (case hr => first | (go_simp; done) | (go_simp; rfl)); intro g13 hgx w2 hbk hb; clear hgx; have B2 := A_ hb; have F13 : Aside0 (Kd.C (Kd.int .i64) w2 (some ⟨g13, 0, none⟩) 2 [3, 4]) := ⟨lit3 hbk (by decide) ⟨rfl, rfl, trivial⟩⟩; clear hb hbk)
  | ((with_reducible refine gate_dst (N := 14) rfl ?_); refine lit_event ?hg (N := 14) ?hd (cs := #[.slice (some ⟨g12, 0, none⟩) 2 2, .slice (some ⟨g13, 0, none⟩) 2 2]) (t := 22) (n := 2) ?hr ?_; (case hd => rfl); (case hg => rfl); (case hr => first | (go_simp; done) | (go_simp; rfl)); intro g14 hgx w3 hbk hb; clear hgx; have B3 := A_ hb; have F14 : Aside0 (Kd.C (Kd.slice 3 (Kd.int .i64)) w3 (some ⟨g14, 0, none⟩) 2 [[1, 2], [3, 4]]) := ⟨litS hbk (by decide) ⟨⟨_, _, rfl, by decide, Kd.C_below F12.out (below_step (below_step (Below.refl _ _) B2.out) B3.out)⟩, ⟨_, _, rfl, by decide, Kd.C_below F13.out (below_step (Below.refl _ _) B3.out)⟩, trivial⟩⟩; clear hb hbk)
  | ((with_reducible refine gate_dst (N := 15) rfl ?_); refine lit_event ?hg (N := 15) ?hd (cs := #[.slice (some ⟨g14, 0, none⟩) 2 2]) (t := 64) (n := 1) ?hr ?_; (case hd => rfl); (case hg => rfl); (case hr => first | (go_simp; done) | (go_simp; rfl)); intro g15 hgx w4 hbk hb; clear hgx; have B4 := A_ hb; have F15 : Aside0 (Kd.C (Kd.slice 22 (Kd.slice 3 (Kd.int .i64))) w4 (some ⟨g15, 0, none⟩) 1 la) := ⟨litS hbk (by decide) ⟨⟨_, _, rfl, by decide, Kd.C_below F14.out (below_step (Below.refl _ _) B4.out)⟩, trivial⟩⟩; clear hb hbk))
 go_upto_region 3 with (first
  | ((with_reducible refine gate_dst (N := 16) rfl ?_); refine lit_event ?hg (N := 16) ?hd (cs := #[.int .i64 1, .int .i64 5]) (t := 3) (n := 2) ?hr ?_; (case hd => rfl); (case hg => rfl); (case hr => first | (go_simp; done) | (go_simp; rfl)); intro g16 hgx w5 hbk hb; clear hgx; have B5 := A_ hb; have F16 : Aside0 (Kd.C (Kd.int .i64) w5 (some ⟨g16, 0, none⟩) 2 [1, 5]) := ⟨lit3 hbk (by decide) ⟨rfl, rfl, trivial⟩⟩; clear hb hbk)
  | ((with_reducible refine gate_dst (N := 17) rfl ?_); refine lit_event ?hg (N := 17) ?hd (cs := #[.int .i64 3, .int .i64 4]) (t := 3) (n := 2) ?hr ?_; (case hd => rfl); (case hg => rfl); (case hr => first | (go_simp; done) | (go_simp; rfl)); intro g17 hgx w6 hbk hb; clear hgx; have B6 := A_ hb; have F17 : Aside0 (Kd.C (Kd.int .i64) w6 (some ⟨g17, 0, none⟩) 2 [3, 4]) := ⟨lit3 hbk (by decide) ⟨rfl, rfl, trivial⟩⟩; clear hb hbk)
  | ((with_reducible refine gate_dst (N := 18) rfl ?_); refine lit_event ?hg (N := 18) ?hd (cs := #[.int .i64 6, .int .i64 7]) (t := 3) (n := 2) ?hr ?_; (case hd => rfl); (case hg => rfl); (case hr => first | (go_simp; done) | (go_simp; rfl)); intro g18 hgx w7 hbk hb; clear hgx; have B7 := A_ hb; have F18 : Aside0 (Kd.C (Kd.int .i64) w7 (some ⟨g18, 0, none⟩) 2 [6, 7]) := ⟨lit3 hbk (by decide) ⟨rfl, rfl, trivial⟩⟩; clear hb hbk)
  | ((with_reducible refine gate_dst (N := 19) rfl ?_); refine lit_event ?hg (N := 19) ?hd (cs := #[.slice (some ⟨g16, 0, none⟩) 2 2, .slice (some ⟨g17, 0, none⟩) 2 2, .slice (some ⟨g18, 0, none⟩) 2 2]) (t := 22) (n := 3) ?hr ?_; (case hd => rfl); (case hg => rfl); (case hr => first | (go_simp; done) | (go_simp; rfl)); intro g19 hgx w8 hbk hb; clear hgx; have B8 := A_ hb; have F19 : Aside0 (Kd.C (Kd.slice 3 (Kd.int .i64)) w8 (some ⟨g19, 0, none⟩) 3 [[1, 5], [3, 4], [6, 7]]) := ⟨litS hbk (by decide) ⟨⟨_, _, rfl, by decide, Kd.C_below F16.out (below_step (below_step (below_step (Below.refl _ _) B6.out) B7.out) B8.out)⟩, ⟨_, _, rfl, by decide, Kd.C_below F17.out (below_step (below_step (Below.refl _ _) B7.out) B8.out)⟩, ⟨_, _, rfl, by decide, Kd.C_below F18.out (below_step (Below.refl _ _) B8.out)⟩, trivial⟩⟩; clear hb hbk)
  | ((with_reducible refine gate_dst (N := 20) rfl ?_); refine lit_event ?hg (N := 20) ?hd (cs := #[.slice (some ⟨g19, 0, none⟩) 3 3]) (t := 64) (n := 1) ?hr ?_; (case hd => rfl); (case hg => rfl); (case hr => first | (go_simp; done) | (go_simp; rfl)); intro g20 hgx w9 hbk hb; clear hgx; have B9 := A_ hb; have F20 : Aside0 (Kd.C (Kd.slice 22 (Kd.slice 3 (Kd.int .i64))) w9 (some ⟨g20, 0, none⟩) 1 lb) := ⟨litS hbk (by decide) ⟨⟨_, _, rfl, by decide, Kd.C_below F19.out (below_step (Below.refl _ _) B9.out)⟩, trivial⟩⟩; clear hb hbk))
 go_upto_region 4 with (first
  | (go_at_call 14; refine (diff_lit (la := la) (lb := lb) (d := d1) (n := 2) g15 g20 w9 rfl rfl rfl e1 ?x1 ?x2).mono ?_; (case x1 => exact Kd.C_below F15.out (below_step (below_step (below_step (below_step (below_step (Below.refl _ _) B5.out) B6.out) B7.out) B8.out) B9.out)); (case x2 => exact Kd.C_below F20.out (Below.refl _ _)); rintro e w10 ⟨AX, cX, rfl, hn, hb⟩; have B10 := A_ hb; have NX := A_ hn; clear hb hn))
 go_upto_region 5 with (first
  | (go_at_call 19; refine (apply_lit g15 AX cX w10 ?x1 ?x2 ?x3).mono ?_; (case x1 => exact Kd.C_below F15.out (below_step (below_step (below_step (below_step (below_step (below_step (Below.refl _ _) B5.out) B6.out) B7.out) B8.out) B9.out) B10.out)); (case x2 => exact (Kd.N_reads' NX.out).2.2); (case x3 => exact (Kd.N_reads' NX.out).2.1); rintro e w11 ⟨AY, cY, rfl, hn, hcY, hb⟩; have B11 := A_ hb; have NY := A_ hn; have CY := A_ hcY; clear hb hn hcY))
 go_upto_region 6 with (first
  | ((with_reducible refine gate_dst (N := 35) rfl ?_); refine lit_event ?hg (N := 35) ?hd (cs := #[.int .i64 1, .int .i64 2]) (t := 3) (n := 2) ?hr ?_; (case hd => rfl); (case hg => rfl); (case hr => first | (go_simp; done) | (go_simp; rfl)); intro g35 hgx w12 hbk hb; clear hgx; have B12 := A_ hb; have F35 : Aside0 (Kd.C (Kd.int .i64) w12 (some ⟨g35, 0, none⟩) 2 [1, 2]) := ⟨lit3 hbk (by decide) ⟨rfl, rfl, trivial⟩⟩; clear hb hbk)
  | ((with_reducible refine gate_dst (N := 36) rfl ?_); refine lit_event ?hg (N := 36) ?hd (cs := #[.int .i64 5, .int .i64 6]) (t := 3) (n := 2) ?hr ?_; (case hd => rfl); (case hg => rfl); (case hr => first | (go_simp; done) | (go_simp; rfl)); intro g36 hgx w13 hbk hb; clear hgx; have B13 := A_ hb; have F36 : Aside0 (Kd.C (Kd.int .i64) w13 (some ⟨g36, 0, none⟩) 2 [5, 6]) := ⟨lit3 hbk (by decide) ⟨rfl, rfl, trivial⟩⟩; clear hb hbk)
  | ((with_reducible refine gate_dst (N := 37) rfl ?_); refine lit_event ?hg (N := 37) ?hd (cs := #[.slice (some ⟨g35, 0, none⟩) 2 2, .slice (some ⟨g36, 0, none⟩) 2 2]) (t := 22) (n := 2) ?hr ?_; (case hd => rfl); (case hg => rfl); (case hr => first | (go_simp; done) | (go_simp; rfl)); intro g37 hgx w14 hbk hb; clear hgx; have B14 := A_ hb; have F37 : Aside0 (Kd.C (Kd.slice 3 (Kd.int .i64)) w14 (some ⟨g37, 0, none⟩) 2 [[1, 2], [5, 6]]) := ⟨litS hbk (by decide) ⟨⟨_, _, rfl, by decide, Kd.C_below F35.out (below_step (below_step (Below.refl _ _) B13.out) B14.out)⟩, ⟨_, _, rfl, by decide, Kd.C_below F36.out (below_step (Below.refl _ _) B14.out)⟩, trivial⟩⟩; clear hb hbk)
  | ((with_reducible refine gate_dst (N := 38) rfl ?_); refine lit_event ?hg (N := 38) ?hd (cs := #[.slice (some ⟨g37, 0, none⟩) 2 2]) (t := 64) (n := 1) ?hr ?_; (case hd => rfl); (case hg => rfl); (case hr => first | (go_simp; done) | (go_simp; rfl)); intro g38 hgx w15 hbk hb; clear hgx; have B15 := A_ hb; have F38 : Aside0 (Kd.C (Kd.slice 22 (Kd.slice 3 (Kd.int .i64))) w15 (some ⟨g38, 0, none⟩) 1 lc) := ⟨litS hbk (by decide) ⟨⟨_, _, rfl, by decide, Kd.C_below F37.out (below_step (Below.refl _ _) B15.out)⟩, trivial⟩⟩; clear hb hbk)
  | (go_at_call 14; refine (diff_lit (la := la) (lb := lc) (d := d2) (n := 2) g15 g38 w15 rfl rfl rfl e2 ?x1 ?x2).mono ?_; (case x1 => exact Kd.C_below F15.out (below_step (below_step (below_step (below_step (below_step (below_step (below_step (below_step (below_step (below_step (below_step (Below.refl _ _) B5.out) B6.out) B7.out) B8.out) B9.out) B10.out) B11.out) B12.out) B13.out) B14.out) B15.out)); (case x2 => exact Kd.C_below F38.out (Below.refl _ _)); rintro e w16 ⟨AM, cM, rfl, hn, hb⟩; have B16 := A_ hb; have NM := A_ hn; clear hb hn))
 go_upto_region 7 with (first
  | ((with_reducible refine gate_dst (N := 43) rfl ?_); refine lit_event ?hg (N := 43) ?hd (cs := #[.int .i64 1, .int .i64 2, .int .i64 3]) (t := 3) (n := 3) ?hr ?_; (case hd => rfl); (case hg => rfl); (case hr => first | (go_simp; done) | (go_simp; rfl)); intro g43 hgx w17 hbk hb; clear hgx; have B17 := A_ hb; have F43 : Aside0 (Kd.C (Kd.int .i64) w17 (some ⟨g43, 0, none⟩) 3 [1, 2, 3]) := ⟨lit3 hbk (by decide) ⟨rfl, rfl, rfl, trivial⟩⟩; clear hb hbk)
  | ((with_reducible refine gate_dst (N := 44) rfl ?_); refine lit_event ?hg (N := 44) ?hd (cs := #[.int .i64 4, .int .i64 5, .int .i64 6]) (t := 3) (n := 3) ?hr ?_; (case hd => rfl); (case hg => rfl); (case hr => first | (go_simp; done) | (go_simp; rfl)); intro g44 hgx w18 hbk hb; clear hgx; have B18 := A_ hb; have F44 : Aside0 (Kd.C (Kd.int .i64) w18 (some ⟨g44, 0, none⟩) 3 [4, 5, 6]) := ⟨lit3 hbk (by decide) ⟨rfl, rfl, rfl, trivial⟩⟩; clear hb hbk)
  | ((with_reducible refine gate_dst (N := 45) rfl ?_); refine lit_event ?hg (N := 45) ?hd (cs := #[.slice (some ⟨g43, 0, none⟩) 3 3, .slice (some ⟨g44, 0, none⟩) 3 3]) (t := 22) (n := 2) ?hr ?_; (case hd => rfl); (case hg => rfl); (case hr => first | (go_simp; done) | (go_simp; rfl)); intro g45 hgx w19 hbk hb; clear hgx; have B19 := A_ hb; have F45 : Aside0 (Kd.C (Kd.slice 3 (Kd.int .i64)) w19 (some ⟨g45, 0, none⟩) 2 [[1, 2, 3], [4, 5, 6]]) := ⟨litS hbk (by decide) ⟨⟨_, _, rfl, by decide, Kd.C_below F43.out (below_step (below_step (Below.refl _ _) B18.out) B19.out)⟩, ⟨_, _, rfl, by decide, Kd.C_below F44.out (below_step (Below.refl _ _) B19.out)⟩, trivial⟩⟩; clear hb hbk)
  | ((with_reducible refine gate_dst (N := 46) rfl ?_); refine lit_event ?hg (N := 46) ?hd (cs := #[.slice (some ⟨g45, 0, none⟩) 2 2]) (t := 64) (n := 1) ?hr ?_; (case hd => rfl); (case hg => rfl); (case hr => first | (go_simp; done) | (go_simp; rfl)); intro g46 hgx w20 hbk hb; clear hgx; have B20 := A_ hb; have F46 : Aside0 (Kd.C (Kd.slice 22 (Kd.slice 3 (Kd.int .i64))) w20 (some ⟨g46, 0, none⟩) 1 ld) := ⟨litS hbk (by decide) ⟨⟨_, _, rfl, by decide, Kd.C_below F45.out (below_step (Below.refl _ _) B20.out)⟩, trivial⟩⟩; clear hb hbk)
  | ((with_reducible refine gate_dst (N := 47) rfl ?_); refine lit_event ?hg (N := 47) ?hd (cs := #[.int .i64 1, .int .i64 2, .int .i64 3]) (t := 3) (n := 3) ?hr ?_; (case hd => rfl); (case hg => rfl); (case hr => first | (go_simp; done) | (go_simp; rfl)); intro g47 hgx w21 hbk hb; clear hgx; have B21 := A_ hb; have F47 : Aside0 (Kd.C (Kd.int .i64) w21 (some ⟨g47, 0, none⟩) 3 [1, 2, 3]) := ⟨lit3 hbk (by decide) ⟨rfl, rfl, rfl, trivial⟩⟩; clear hb hbk)
  | ((with_reducible refine gate_dst (N := 48) rfl ?_); refine lit_event ?hg (N := 48) ?hd (cs := #[.int .i64 7, .int .i64 8, .int .i64 9]) (t := 3) (n := 3) ?hr ?_; (case hd => rfl); (case hg => rfl); (case hr => first | (go_simp; done) | (go_simp; rfl)); intro g48 hgx w22 hbk hb; clear hgx; have B22 := A_ hb; have F48 : Aside0 (Kd.C (Kd.int .i64) w22 (some ⟨g48, 0, none⟩) 3 [7, 8, 9]) := ⟨lit3 hbk (by decide) ⟨rfl, rfl, rfl, trivial⟩⟩; clear hb hbk)
  | ((with_reducible refine gate_dst (N := 49) rfl ?_); refine lit_event ?hg (N := 49) ?hd (cs := #[.slice (some ⟨g47, 0, none⟩) 3 3, .slice (some ⟨g48, 0, none⟩) 3 3]) (t := 22) (n := 2) ?hr ?_; (case hd => rfl); (case hg => rfl); (case hr => first | (go_simp; done) | (go_simp; rfl)); intro g49 hgx w23 hbk hb; clear hgx; have B23 := A_ hb; have F49 : Aside0 (Kd.C (Kd.slice 3 (Kd.int .i64)) w23 (some ⟨g49, 0, none⟩) 2 [[1, 2, 3], [7, 8, 9]]) := ⟨litS hbk (by decide) ⟨⟨_, _, rfl, by decide, Kd.C_below F47.out (below_step (below_step (Below.refl _ _) B22.out) B23.out)⟩, ⟨_, _, rfl, by decide, Kd.C_below F48.out (below_step (Below.refl _ _) B23.out)⟩, trivial⟩⟩; clear hb hbk)
  | ((with_reducible refine gate_dst (N := 50) rfl ?_); refine lit_event ?hg (N := 50) ?hd (cs := #[.slice (some ⟨g49, 0, none⟩) 2 2]) (t := 64) (n := 1) ?hr ?_; (case hd => rfl); (case hg => rfl); (case hr => first | (go_simp; done) | (go_simp; rfl)); intro g50 hgx w24 hbk hb; clear hgx; have B24 := A_ hb; have F50 : Aside0 (Kd.C (Kd.slice 22 (Kd.slice 3 (Kd.int .i64))) w24 (some ⟨g50, 0, none⟩) 1 le) := ⟨litS hbk (by decide) ⟨⟨_, _, rfl, by decide, Kd.C_below F49.out (below_step (Below.refl _ _) B24.out)⟩, trivial⟩⟩; clear hb hbk)
  | (go_at_call 14; refine (diff_lit (la := ld) (lb := le) (d := d3) (n := 2) g46 g50 w24 rfl rfl rfl e3 ?x1 ?x2).mono ?_; (case x1 => exact Kd.C_below F46.out (below_step (below_step (below_step (below_step (Below.refl _ _) B21.out) B22.out) B23.out) B24.out)); (case x2 => exact Kd.C_below F50.out (Below.refl _ _)); rintro e w25 ⟨AK, cK, rfl, hn, hb⟩; have B25 := A_ hb; have NK := A_ hn; clear hb hn))
 obtain ⟨hmn, hmc, hmC⟩ := Kd.N_reads' NM.out; obtain ⟨hkn, hkc, hkC⟩ := Kd.N_reads' NK.out; obtain ⟨adM, _, _, eM, _, _, m0, _, _, _, _, _⟩ := at_T61 hmC 0 (by decide) (by decide); obtain ⟨adM', _, _, eM', _, _, m1, _, _, _, _, _⟩ := at_T61 hmC 1 (by decide) (by decide); obtain ⟨adK, _, _, eK, _, _, k0, _, _, _, _, _⟩ := at_T61 hkC 0 (by decide) (by decide); obtain ⟨adK', _, _, eK', _, _, k1, _, _, _, _, _⟩ := at_T61 hkC 1 (by decide) (by decide)
 cases eM
 cases eM'
 cases eK
 cases eK'
 have M0 := A_ (show w16.cell? ⟨adM.block, adM.off + 2, none⟩ = some (.int .i64 0) by rw [show (0 : Int).toNat * 6 = 0 from rfl, Addr.add_zero'] at m0; exact m0); have M1 := A_ (show w16.cell? ⟨adM.block, adM.off + 6 + 2, none⟩ = some (.int .i64 1) by (have h : adM.add ((1 : Int).toNat * 6) = ⟨adM.block, adM.off + 6, none⟩ := by simp [Addr.add]); rw [h] at m1; exact m1); have K0 := A_ (show w25.cell? ⟨adK.block, adK.off + 2, none⟩ = some (.int .i64 (-2)) by rw [show (0 : Int).toNat * 6 = 0 from rfl, Addr.add_zero'] at k0; exact k0); have K1 := A_ (show w25.cell? ⟨adK.block, adK.off + 6 + 2, none⟩ = some (.int .i64 (-1)) by (have h : adK.add ((1 : Int).toNat * 6) = ⟨adK.block, adK.off + 6, none⟩ := by simp [Addr.add]); rw [h] at k1; exact k1); clear hmn hmc hmC hkn hkc hkC m0 m1 k0 k1
 go_upto_region 10 with (first
  | (go_at_call 21; refine (same_lit g20 AY cY w25 ?x1 CY.out ?x3).mono ?_; (case x1 => exact Kd.C_below NY.out (below_step (below_step (below_step (below_step (below_step (below_step (below_step (below_step (below_step (below_step (below_step (below_step (below_step (below_step (Below.refl _ _) B12.out) B13.out) B14.out) B15.out) B16.out) B17.out) B18.out) B19.out) B20.out) B21.out) B22.out) B23.out) B24.out) B25.out)); (case x3 => exact Kd.C_below F20.out (below_step (below_step (below_step (below_step (below_step (below_step (below_step (below_step (below_step (below_step (below_step (below_step (below_step (below_step (below_step (below_step (Below.refl _ _) B10.out) B11.out) B12.out) B13.out) B14.out) B15.out) B16.out) B17.out) B18.out) B19.out) B20.out) B21.out) B22.out) B23.out) B24.out) B25.out)); rintro e w26 ⟨rfl, hd⟩; have B26 := A_ hd.below; clear hd)
  | ((with_reducible refine gate_dst (N := 85) rfl ?_); refine lit_event ?hg (N := 85) ?hd (cs := #[.int .i64 6, .int .i64 7]) (t := 3) (n := 2) ?hr ?_; (case hd => rfl); (case hg => rfl); (case hr => first | (go_simp; done) | (go_simp; rfl)); intro g85 hgx w27 hbk hb; clear hgx; have B27 := A_ hb; have F85 : Aside0 (Kd.C (Kd.int .i64) w27 (some ⟨g85, 0, none⟩) 2 [6, 7]) := ⟨lit3 hbk (by decide) ⟨rfl, rfl, trivial⟩⟩; clear hb hbk)
  | ((with_reducible refine gate_dst (N := 87) rfl ?_); refine lit_event ?hg (N := 87) ?hd (cs := #[.int .i64 0, .int .i64 0, .int .i64 1, .int .i64 2, .int .i64 5, .slice none 0 0, .int .i64 0, .int .i64 2, .int .i64 (-1), .int .i64 0, .int .i64 0, .slice (some ⟨g85, 0, none⟩) 2 2]) (t := 76) (n := 2) ?hr ?_; (case hd => rfl); (case hg => rfl); (case hr => first | (go_simp; done) | (go_simp; rfl)); intro g87 hgx w28 hbk hb; clear hgx; have B28 := A_ hb; have F87 : Aside0 (Kd.C k76 w28 (some ⟨g87, 0, none⟩) 2 p1) := ⟨want hbk (Kd.C_below F85.out (below_step (Below.refl _ _) B28.out))⟩; clear hb hbk))
 go_wp2_with (first
  | (go_at_call 17; refine (plain_lit AX cX w28 w10 _ _ NX.out (below_step (below_step (below_step (below_step (below_step (below_step (below_step (below_step (below_step (below_step (below_step (below_step (below_step (below_step (below_step (below_step (below_step (below_step (Below.refl _ _) B11.out) B12.out) B13.out) B14.out) B15.out) B16.out) B17.out) B18.out) B19.out) B20.out) B21.out) B22.out) B23.out) B24.out) B25.out) B26.out) B27.out) B28.out)).mono ?_; rintro e w29 ⟨AZ, cZ, rfl, hn, hcZ, hb⟩; have B29 := A_ hb; have NZ := A_ hn; have CZ := A_ hcZ; clear hb hn hcZ)
  | (go_at_call 16; refine (all_lit g87 AZ cZ w29 NZ.out CZ.out ?x3).mono ?_; (case x3 => exact Kd.C_below F87.out (below_step (Below.refl _ _) B29.out)); rintro e w30 ⟨rfl, hb⟩; have B30 := A_ hb; clear hb; have hm0 := cell_below (below_step (below_step (below_step (below_step (below_step (below_step (below_step (below_step (below_step (below_step (below_step (below_step (below_step (below_step (Below.refl _ _) B17.out) B18.out) B19.out) B20.out) B21.out) B22.out) B23.out) B24.out) B25.out) B26.out) B27.out) B28.out) B29.out) B30.out) M0.out; have hm1 := cell_below (below_step (below_step (below_step (below_step (below_step (below_step (below_step (below_step (below_step (below_step (below_step (below_step (below_step (below_step (Below.refl _ _) B17.out) B18.out) B19.out) B20.out) B21.out) B22.out) B23.out) B24.out) B25.out) B26.out) B27.out) B28.out) B29.out) B30.out) M1.out; have hk0 := cell_below (below_step (below_step (below_step (below_step (below_step (Below.refl _ _) B26.out) B27.out) B28.out) B29.out) B30.out) K0.out; have hk1 := cell_below (below_step (below_step (below_step (below_step (below_step (Below.refl _ _) B26.out) B27.out) B28.out) B29.out) B30.out) K1.out))
 go_ret; exact ⟨rfl, (below_step (below_step (below_step (below_step (below_step (below_step (below_step (below_step (below_step (below_step (below_step (below_step (below_step (below_step (below_step (below_step (below_step (below_step (below_step (below_step (below_step (below_step (below_step (below_step (below_step (below_step (below_step (below_step (below_step (below_step (Below.refl _ _) B1.out) B2.out) B3.out) B4.out) B5.out) B6.out) B7.out) B8.out) B9.out) B10.out) B11.out) B12.out) B13.out) B14.out) B15.out) B16.out) B17.out) B18.out) B19.out) B20.out) B21.out) B22.out) B23.out) B24.out) B25.out) B26.out) B27.out) B28.out) B29.out) B30.out)⟩
end Lives
def dioramalaw36_lives.f : Option Bool := some true
theorem dioramalaw36_lives.calls (r : Bool) (w : World) (h : dioramalaw36_lives.f = some r) : Calls Try.prog 18 #[] w fun e w' => e = .returned (.bool r) ∧ Below w.heap.size w w' := by
 obtain rfl := Option.some.inj h; exact Lives.calls w
end Go.Proofs.Ytcgpemefmakjiaa.PX
namespace Go.Proofs.Ytcgpemefmakjiaa.PX
open Go.RowKit Go.Proofs.YtcgpemefmakjiaaW.PrintWords Go.Proofs.YtcgpemefmakjiaaW.PrintLast Go.Proofs.YtcgpemefmakjiaaW.PrintMore
set_option maxHeartbeats 4000000 in
set_option maxRecDepth 100000 in
theorem near_any (A0 : Option Addr) (c0 : Nat) (l0 : Wd) (A1 : Option Addr) (c1 : Nat) (sh : List Int) (A2 : Option Addr) (c2 : Nat) (l : List Int) (r : Wd) (w : World) (hr0 : Kd.C (Kd.slice 22 (Kd.slice 3 (Kd.int .i64))) w A0 l0.length l0) (hr1 : Kd.C (Kd.int .i64) w A1 sh.length sh) (hc1 : sh.length ≤ c1)
  (hr2 : Kd.C (Kd.int .i64) w A2 l.length l) (hc2 : l.length ≤ c2) (hs : Small l0) (hl : l.all in64 = true) (hm : l.length ≤ 4611686018427387904) (h : nearLoop sh l 4 0 l0 = some r) :
  Calls Try.prog 12 #[.slice A0 l0.length c0, .slice A1 sh.length c1, .slice A2 l.length c2] w fun e w' => ∃ v, e = .returned v ∧ WRep w' w.heap.size v r ∧ Below w.heap.size w w' := by
 have HR0 := A_ hr0; have HR1 := A_ hr1; have HR2 := A_ hr2; have HC2 := A_ hc2; have HS := A_ hs; have HH := A_ h; have hlen0 := hs.1; have hlen1 := hr1.2.1; have HAT := A_ (fun i n => atv_spec l i n hl); have HCA := A_ (fun (i n : Int) (W : World) (hb : Below w.heap.size w W) => dioramaref01_At.calls A2 c2 l i n (atv l i n) W (Kd.C_below hr2 hb) hc2 (atv_spec l i n hl).1); clear hr0 hr1 hr2 hc2 hs h hl
 go_enter Try.func12, Try.ntmps12
 go_wp2_with (go_at_call 35; refine (copy_any A0 c0 l0 w HR0.out HS.out).mono ?_; rintro e w1 ⟨v1, rfl, hv, hb⟩; have HV1 := A_ hv; have HB1 := A_ hb; clear hv hb)
 obtain ⟨A, c, rfl⟩ : ∃ A c, v1 = .slice A l0.length c := by
  obtain ⟨_, _, h⟩ := HV1.out; obtain ⟨A, c, e, _⟩ := h.top; exact ⟨A, c, e⟩
 go_loopw [8] (fun u wr => ∃ (m i : Nat) (out : Wd), i + m = 4 ∧ u = .int .i64 i ∧ Aside0 (out.length = l0.length) ∧ Aside0 (Below w.heap.size w wr) ∧ Aside0 (WRep wr w.heap.size (.slice A l0.length c) out) ∧ Aside0 (nearLoop sh l m i out = some r) ∧ Aside0 (Low (1000000 + i) out)) (fun u _ => 4 - (intOf u).toNat)
 case atStart => exact ⟨4, 0, l0, rfl, rfl, ⟨rfl⟩, HB1, HV1, HH, ⟨fun k rows hk => (HS.out.2 k rows hk).1⟩⟩
 case round =>
  obtain ⟨m, i, out, him, rfl, HOL, HB, HV, HH, HLO⟩ := hrel
  cases m with
  | zero =>
   have hi4 : i = 4 := by omega
   subst hi4; have hr : out = r := Option.some.inj HH.out; subst hr
   have hd : decide ((14 : Int) < (l.length : Int)) = true ∨ decide ((14 : Int) < (l.length : Int)) = false := by cases decide ((14 : Int) < (l.length : Int)) <;> simp
   rcases hd with hd | hd
   (· go_wp2; go_ret; exact ⟨_, rfl, HV.out, HB.out⟩); (· go_wp2; go_ret; exact ⟨_, rfl, HV.out, HB.out⟩)
  | succ m =>
   have hi : i < 4 := by omega
   have hi4 : decide ((i : Int) < 4) = true := decide_eq_true (by omega); have H : (if 3 * (i : Int) + 2 < l.length ∧ 0 < out.length then (nearStep sh l i out).bind (nearLoop sh l m ((i : Int) + 1)) else some out) = some r := HH.out
   by_cases hg : 3 * (i : Int) + 2 < l.length ∧ 0 < out.length
   ·rw [if_pos hg] at H
    have hg1 : decide (3 * (i : Int) + 2 < (l.length : Int)) = true := decide_eq_true hg.1; have hol := HOL.out; have hg2 : decide ((0 : Int) < (l0.length : Int)) = true := decide_eq_true (by omega); obtain ⟨out', hst, hlp⟩ := Option.bind_eq_some_iff.1 H; obtain ⟨kz, hkz⟩ : ∃ kz, kz = atv l (3 * (i : Int)) (l0.length : Int) := ⟨_, rfl⟩; obtain ⟨hz, hhz⟩ : ∃ hz, hz = atv l (3 * (i : Int) + 1) 6 := ⟨_, rfl⟩
    have hk0 : 0 ≤ kz := by rw [hkz]; exact (HAT.out _ _).2.1
    have hk1 : kz < (l0.length : Int) := by rw [hkz]; exact (HAT.out _ _).2.2 (by omega)
    have hh0 : 0 ≤ hz := by rw [hhz]; exact (HAT.out _ _).2.1
    have HC5 := A_ (HCA.out (3 * (i : Int)) (l0.length : Int)); have HC7 := A_ (HCA.out (3 * (i : Int) + 1) 6); rw [← hkz] at HC5; rw [← hhz] at HC7; have HLP : Aside0 (nearLoop sh l m ((i + 1 : Nat) : Int) out' = some r) := ⟨by rw [show ((i + 1 : Nat) : Int) = (i : Int) + 1 by omega]; exact hlp⟩; have hrows := rd_L2_at out kz hk0 (by rw [hol]; exact hk1); rw [nearStep, hol, ← hkz, ← hhz] at hst; have HRW := A_ hrows; have HST := A_ hst; clear hrows hst hlp H hhz hkz HH hg; generalize rd_L2 out kz = rows at HRW HST
    have hrl : rows.length ≤ 1000004 := by have := HLO.out _ _ HRW.out; omega
    obtain ⟨ad, c', hAe, _⟩ := HV.out.known HRW.out
    injection hAe with hAe hx1 hx2
    clear hx1 hx2; subst hAe; have HV' := A_ (show WRep wr w.heap.size (.slice (some ad) out.length c) out by rw [HOL.out]; exact HV.out); obtain ⟨A9, c9, hy, _, _, _⟩ := HV'.out.seen HRW.out; clear hol
    go_upto_region 6 with (first
     | (go_at_call 34; with_reducible refine (HC5.out _ ?b).mono ?_; (case b => exact HB.out); rintro e w2 ⟨rfl, hd⟩; have B2 := A_ (below_step HB.out hd.below); replace hy := cell_below hd.below hy; have V2 := A_ (HV'.out.below hd.below); clear hd))
    go_upto_region 8 with (first
     | (go_at_call 34; with_reducible refine (HC7.out _ ?b).mono ?_; (case b => exact B2.out); rintro e w3 ⟨rfl, hd⟩; have B3 := A_ (below_step B2.out hd.below); replace hy := cell_below hd.below hy; have V3 := A_ (V2.out.below hd.below); clear hd))
    obtain ⟨_, _, _, hc9, _, hfz⟩ := V3.out.seen HRW.out; have HBL := A_ (V3.out.base_le HRW.out); have HFZ := A_ hfz; clear hfz hc9
    by_cases hA : hz = 0 ∧ 0 < rows.length
    ·have a1 : (hz == 0) = true := beq_iff_eq.2 hA.1
     have a2 : decide ((0 : Int) < (rows.length : Int)) = true := decide_eq_true (by omega); have a3 : decide (0 < rows.length) = true := decide_eq_true hA.2; rw [if_pos hA] at HST; have HOUT := A_ (Option.some.inj HST.out); have HSH := A_ (V3.out.shrink HRW.out hy (show rows.length - 1 ≤ rows.length by omega)); have hA2 := hA.2; clear hA HST; have hfz := HFZ.out
     have e1 : ((rows.length : Int) - 1).toNat = rows.length - 1 := by omega
     go_wp2
     go_roundw
     case rel => exact ⟨m, i + 1, out.set kz.toNat (rows.take (rows.length - 1)), by omega, by go_num, ⟨by rw [List.length_set]; exact HOL.out⟩, ⟨Below.setCell B3.out HBL.out _⟩, ⟨by have := HSH.out; rw [HOL.out] at this; exact this⟩, ⟨by rw [HOUT.out]; exact HLP.out⟩, ⟨Low.set (n := 1000000 + i) (k := kz.toNat) (rows := rows.take (rows.length - 1)) HLO.out (by rw [List.length_take]; have := HLO.out _ _ HRW.out; omega)⟩⟩
     case measure => simp [intOf]; omega
    ·rw [if_neg hA] at HST
     by_cases h0 : hz = 0
     ·have h1 : ¬ 0 < rows.length := fun h1 => hA ⟨h0, h1⟩
      have a1 : (hz == 0) = true := beq_iff_eq.2 h0; have a2 : decide ((0 : Int) < (rows.length : Int)) = false := decide_eq_false (by omega); have a3 : decide (0 < rows.length) = false := decide_eq_false h1; have a4 : (hz == 1) = false := beq_eq_false_iff_ne.2 (by omega); rw [if_neg (fun h => by omega), if_neg h1] at HST; have HOUT := A_ (Option.some.inj HST.out); clear hA HST h0 h1; go_wp2
      go_roundw
      case rel => exact ⟨m, i + 1, out, by omega, by go_num, HOL, B3, ⟨by have := V3.out; rw [HOL.out] at this; exact this⟩, ⟨by rw [HOUT.out]; exact HLP.out⟩, ⟨Low.succ (n := 1000000 + i) HLO.out⟩⟩
      case measure => simp [intOf]; omega
     ·have a1 : (hz == 0) = false := beq_eq_false_iff_ne.2 h0
      clear hA h0
      by_cases hB : hz = 1 ∧ kz < sh.length ∧ rows.length < 6
      ·have b1 : (hz == 1) = true := beq_iff_eq.2 hB.1
       have b2 : decide (kz < (sh.length : Int)) = true := decide_eq_true hB.2.1; have b3 : decide ((rows.length : Int) < 6) = true := decide_eq_true (by omega); have b4 : decide (rows.length < 6) = true := decide_eq_true hB.2.2; have hks := hB.2.1; have hr6 := hB.2.2; rw [if_pos hB] at HST; clear hB
       by_cases h1000 : rd sh kz ≤ 1000
       ·rw [if_pos h1000] at HST
        obtain ⟨xz, hxz⟩ : ∃ xz, xz = atv l (3 * (i : Int) + 2) 3 := ⟨_, rfl⟩; have HC15 := A_ (HCA.out (3 * (i : Int) + 2) 3); rw [← hxz] at HC15 HST; have HOUT := A_ (Option.some.inj HST.out); clear HST hxz; obtain ⟨sd, es, hsx⟩ := int_row_at HR1.out kz.toNat (by omega); subst es; rw [show ((kz.toNat : Nat) : Int) = kz by omega] at hsx; have HSX := A_ hsx; clear hsx; generalize rd sh kz = sz at HSX HOUT h1000; obtain ⟨cs, hcs, hgrow⟩ := V3.out.grow HRW.out hy; have HCS := A_ hcs; have HGR := A_ hgrow; have HNT := A_ (V3.out.top_ne HRW.out hcs); have HY := A_ hy; clear hcs hgrow hy; have hsz : (Value.slice A9 rows.length c9) = .slice A9 rows.length c9 := rfl; clear hsz; go_wp2
        go_loopw [12, 13] (fun u' v' wr' => ∃ f : Nat, (f : Int) ≤ max sz 0 ∧ v' = .int .i64 f ∧ Aside0 (Below w3.heap.size w3 wr') ∧ Aside0 (Kd.R (Kd.int .i64) 3 wr' w3.heap.size (fun _ => True) u' (List.replicate f xz))) (fun _ v' _ => (max sz 0).toNat - (intOf v').toNat)
        case atStart => exact ⟨0, by omega, rfl, ⟨Below.refl _ _⟩, ⟨Kd.R_nil _ _ _ _ _⟩⟩
        case round =>
         obtain ⟨f, hf, rfl, HB5, HR5⟩ := hrel; have hsx := cell_below (below_step B3.out HB5.out) HSX.out
         by_cases hfl : (f : Int) < sz
         ·have f1 : decide ((f : Int) < sz) = true := decide_eq_true hfl
          have HLEN := A_ (show (List.replicate f xz).length = f from List.length_replicate)
          go_wp2_with (first
           | (go_at_call 34; with_reducible refine (HC15.out _ ?b).mono ?_; (case b => exact below_step B3.out HB5.out); rintro e w6 ⟨rfl, hd⟩; have HB6 := A_ (below_step HB5.out hd.below); have HR6 := A_ (Kd.R_below HR5.out hd.below); clear hd)
           | ((with_reducible refine gate_builtin (b := .append) (xs := #[.tmp 87, .tmp 93]) rfl ?_); at_builtin; refine Kd.R_append (Kd.int .i64) (w0 := w3) w3.heap.size rfl (.tmp 87) (.tmp 93) 22 3 (.int .i64 0) 8 rfl Try.underlying22 info3 rfl (by decide) (by decide) u12 (List.replicate f xz) xz [.int .i64 xz] (fun _ => True) (fun _ => False) rfl rfl rfl (fun _ h => h.elim) (fun _ _ => trivial) HR6.out HB6.out HB6.out.size ?hl ?_; (case hl => rw [HLEN.out]; omega); intro v7 w7 ho7 hb7 hg7 hat7; have HR7 := A_ ho7; have HB7 := A_ hb7; clear ho7 hb7 hg7 hat7))
          go_roundw
          case rel => exact ⟨f + 1, by omega, by go_num, HB7, ⟨by rw [List.replicate_succ']; exact HR7.out⟩⟩
          case measure => simp [intOf]; omega
         ·have f1 : decide ((f : Int) < sz) = false := decide_eq_false hfl
          have hfz : f = sz.toNat := by omega
          have hfz2 := A_ hfz; clear hfz hf hfl; obtain ⟨q, hq⟩ : ∃ q, q = List.replicate f xz := ⟨_, rfl⟩; rw [← hq] at HR5; have HQ := A_ hq; clear hq; obtain ⟨A8, c8, rfl⟩ := Kd.R_slice HR5.out; have hy := cell_below HB5.out HY.out; have hlt := World.block_lt_of_cell? _ _ hy; have HLT := A_ hlt; have hfr := frozen_below HB5.out HY.out HFZ.out; have HFR := A_ hfr; clear hlt hfr
          go_wp2_with ((with_reducible refine gate_builtin (b := .append) (xs := #[.tmp 100, .tmp 102]) rfl ?_); at_builtin; refine print_append_cells (w0 := w) w.heap.size rfl (.tmp 100) (.tmp 102) 64 22 (.slice none 0 0) 1 24 rfl Try.underlying64 info22 rfl (by decide) (by decide) (.slice A9 rows.length c9) rows.length cs [.slice A8 q.length c8] rfl rfl rfl ?one ?own ?hb ?hbase ?hl ?_; (case one => intro u hu; simp only [List.mem_singleton] at hu; subst hu; rfl); (case own => exact own_move HCS.out (fun b hb => HB5.out.block b (own_lt HCS.out b hb))); (case hb => exact below_step B3.out HB5.out); (case hbase => exact (below_step B3.out HB5.out).size); (case hl => omega); intro v7 w7 hown7 hb7 hg7 hat7; (obtain ⟨A7, c7, rfl⟩ := own_slice hown7); have hcz := hg7.cell hy HNT.out; have hfz := (World.frozen?_of_block (hg7.block _ HLT.out HNT.out)).trans HFR.out; have HO7 := A_ hown7; have HB7 := A_ hb7; have HG7 := A_ hg7; have HA7 := A_ hat7; clear hown7 hb7 hg7 hat7 hy)
          have HW7 := A_ (HGR.out _ _ _ _ _ _ HB5.out HR5.out HG7.out HA7.out HO7.out)
          go_roundw
          case rel => exact ⟨m, i + 1, out.set kz.toNat (rows ++ [q]), by omega, by go_num, ⟨by rw [List.length_set]; exact HOL.out⟩, ⟨Below.setCell HB7.out HBL.out _⟩, ⟨by have := HW7.out; rw [HOL.out] at this; exact this⟩, ⟨by rw [HQ.out, hfz2.out, HOUT.out]; exact HLP.out⟩, ⟨Low.set (n := 1000000 + i) (k := kz.toNat) (rows := rows ++ [q]) HLO.out (by rw [List.length_append]; have := HLO.out _ _ HRW.out; simp; omega)⟩⟩
          case measure => simp [intOf]; omega
       (· rw [if_neg h1000] at HST; exact absurd HST.out (by simp))
      ·skip
       go_upto_region 10 with (fail)
       go_cut [78] (fun v wc => v = .bool false ∧ w3 = wc)
       case first =>
        by_cases b1 : hz = 1
        ·have c1 : (hz == 1) = true := beq_iff_eq.2 b1
         by_cases b2 : kz < sh.length
         ·have c2 := decide_eq_true b2
          have c3 : decide ((rows.length : Int) < 6) = false := decide_eq_false (fun h => hB ⟨b1, b2, by omega⟩); clear b1 hB; go_wp2
          go_meet
          case rel => exact ⟨rfl, rfl⟩
         ·have c2 := decide_eq_false b2
          clear b1 hB; go_wp2
          go_meet
          case rel => exact ⟨rfl, rfl⟩
        ·have c1 : (hz == 1) = false := beq_eq_false_iff_ne.2 b1
         go_wp2
         go_meet
         case rel => exact ⟨rfl, rfl⟩
       case rest =>
       obtain ⟨rfl, rfl⟩ := hcut; rw [if_neg hB] at HST; clear hB
       by_cases hr : 0 < rows.length
       ·rw [if_pos hr] at HST
        have r1 : decide ((0 : Int) < (rows.length : Int)) = true := decide_eq_true (by omega); have r2 : decide (0 < rows.length) = true := decide_eq_true hr; obtain ⟨jz, hjz⟩ : ∃ jz, jz = atv l (3 * (i : Int) + 2) (rows.length : Int) := ⟨_, rfl⟩
        have hj0 : 0 ≤ jz := by rw [hjz]; exact (HAT.out _ _).2.1
        have hj1 : jz < (rows.length : Int) := by rw [hjz]; exact (HAT.out _ _).2.2 (by omega)
        have HC18 := A_ (HCA.out (3 * (i : Int) + 2) (rows.length : Int)); rw [← hjz] at HC18 HST; have hrj := rd_L1_at rows jz hj0 hj1; have HRJ := A_ hrj; clear hrj hjz; generalize rd_L1 rows jz = rj at HRJ HST
        by_cases hz0 : rj.length = 0
        (· rw [if_pos hz0] at HST; exact absurd HST.out (by simp)); rw [if_neg hz0] at HST; obtain ⟨fz, hfz⟩ : ∃ fz, fz = atv l (3 * (i : Int) + 2) (rj.length : Int) := ⟨_, rfl⟩
        have hf0 : 0 ≤ fz := by rw [hfz]; exact (HAT.out _ _).2.1
        have hf1 : fz < (rj.length : Int) := by rw [hfz]; exact (HAT.out _ _).2.2 (by omega)
        have HC19 := A_ (HCA.out (3 * (i : Int) + 2) (rj.length : Int)); rw [← hfz] at HC19 HST; have HC20 := A_ (HCA.out (3 * (i : Int) + 2) 12); obtain ⟨xz, hxz⟩ : ∃ xz, xz = atv l (3 * (i : Int) + 2) 12 := ⟨_, rfl⟩
        have hx0 : 0 ≤ xz := by rw [hxz]; exact (HAT.out _ _).2.1
        have hx1 : xz < 12 := by rw [hxz]; exact (HAT.out _ _).2.2 (by omega)
        rw [← hxz] at HC20 HST
        have e20 : wrap64 (wrap64 (3 * (i : Int)) + 2) = 3 * (i : Int) + 2 := by rw [wrap64_id (x := 3 * (i : Int)) (by omega) (by omega), wrap64_id (by omega) (by omega)]
        have e21 : wrap64 (Int.tdiv xz 4) = Int.tdiv xz 4 := wrap64_id (by have := Int.tdiv_nonneg (a := xz) (b := 4) hx0 (by omega); omega) (by have := Int.tdiv_le_self 4 hx0; omega); rw [← e20] at HC20; have HE21 := A_ e21; clear e20 e21; have HOUT := A_ (Option.some.inj HST.out); clear HST hfz hxz; obtain ⟨ad2, A3, c3, rfl, hq, _, hCj, _⟩ := V3.out.record HRW.out hy HRJ.out; have hrjl := hCj.2.1; clear hCj
        go_upto_region 19 with (first
         | (go_at_call 34; with_reducible refine (HC18.out _ ?b).mono ?_; (case b => exact B3.out); rintro e w4 ⟨rfl, hd⟩; have B4 := A_ (below_step B3.out hd.below); replace hy := cell_below hd.below hy; replace hq := cell_below hd.below hq; have V4 := A_ (V3.out.below hd.below); clear hd))
        go_upto_region 20 with (first
         | (go_at_call 34; with_reducible refine (HC19.out _ ?b).mono ?_; (case b => exact B4.out); rintro e w5 ⟨rfl, hd⟩; have B5 := A_ (below_step B4.out hd.below); replace hy := cell_below hd.below hy; replace hq := cell_below hd.below hq; have V5 := A_ (V4.out.below hd.below); clear hd))
        obtain ⟨ad2', A3', c3', e3, hq', _, _, hst⟩ := V5.out.record HRW.out hy HRJ.out
        cases e3
        clear hq; obtain ⟨ad3, rfl, hcl, hfr, _, _⟩ := hst fz.toNat (by omega); have hq := hq'; clear hq' hst
        go_upto_region 20 with (fail)
        have B6 : Aside0 (Below w.heap.size w w5.drew) := ⟨below_drew B5.out⟩; have V6 : Aside0 (WRep w5.drew w.heap.size (.slice (some ad) out.length c) out) := V5; replace hy := dr_ hy; replace hq := dr_ hq; replace hcl := dr_ hcl; replace hfr : w5.drew.frozen? (ad3.add fz.toNat) = false := hfr; refine start_ (n := 16) (S := fun w' => w'.cell? (ad.add kz.toNat) = some (.slice (some ad2) rows.length c9) ∧ w'.cell? (ad2.add jz.toNat) = some (.slice (some ad3) rj.length c3')) (ds := [15]) (B_ 16 0) (by kernel_rfl) rfl rfl ⟨hy, hq⟩ (fun hHeld => ?_); generalize w5.drew = w6 at B6 V6 hHeld hy hq hcl hfr ⊢; refine p_ 0 126 (B_ 16 1) ?_; refine p_ 1 127 (B_ 16 3) ?_; refine p_ 2 128 (B_ 16 7) ?_; refine p_ 4 130 (B_ 16 23) ?_; refine p_ 7 133 (B_ 16 151) ?_; refine p_ 8 134 (B_ 16 407) ?_; refine p_ 9 135 (B_ 16 919) ?_; refine p_ 10 136 (B_ 16 1943) ?_; refine p_ 11 137 (B_ 16 3991) ?_; refine t_ 3 129 (B_ 16 3999) hHeld ?_; refine p_ 5 131 (B_ 16 4031) ?_; refine t_ 6 132 (B_ 16 4095) hHeld ?_; refine one_ (i := 12) (N := some 138) (B_ 16 8191) rfl rfl (by kernel_rfl) (by decide) (fun K hK => ?_); refine goes_ Try.func34 (by kernel_rfl) rfl #[.slice A2 l.length c2, .int .i64 (wrap64 (wrap64 (3 * (i : Int)) + 2)), .int .i64 12] (by rfl) rfl rfl (by simp only [List.map_toArray, List.map_cons, List.map_nil]; rfl) ?_
        with_reducible refine (HC20.out w6 B6.out).mono ?_
        rintro e w7 ⟨rfl, hd⟩; refine ⟨_, rfl, ?_⟩; have B7 := A_ (below_step B6.out hd.below); have V7 := A_ (V6.out.below hd.below); replace hy := cell_below hd.below hy; replace hq := cell_below hd.below hq; have hcz := cell_below hd.below hcl; have hfz := frozen_below hd.below hcl hfr; clear hd; refine hK.out _ _ ⟨hy, hq⟩ (fun hHeld => ?_); clear hK K; refine norm_ (a' := ?_) ?_ ?_; rotate_left
        ·show Act.put _ (some 138) _ = _
         simp only [Act.put, sA_, sB_, sC_, i64_w, i32_w]; rfl
        refine p_ 13 139 (B_ 16 16383) ?_; refine p_ 14 140 (B_ 16 32767) ?_; refine last_ (i := 15) (N := none) (B_ 16 65535) rfl rfl (by kernel_rfl) (by decide) (fun K hK => ?_); refine skip_ (w1 := ?_) (by rfl) rfl ?_ ?_; rotate_left; (· go_simp; rfl); refine hK.out _ _ ?_; clear hK K; refine done_ (by kernel_rfl) ?_; obtain ⟨ad2', A3, c3, e3, hq', _, _, hst⟩ := V7.out.record HRW.out hy HRJ.out
        cases e3
        rw [hq] at hq'
        injection hq' with hq'
        injection hq' with e1 e2 e3
        subst e1; obtain ⟨ad4, e4, _, _, hbl, hst⟩ := hst fz.toNat (by omega)
        injection e4 with e4
        subst e4; have HWS := A_ (hst (Int.tdiv xz 4)); have HBL2 := A_ hbl; clear hst hbl e2 e3; go_wp2
        go_roundw
        case rel => exact ⟨m, i + 1, out.set kz.toNat (rows.set jz.toNat (rj.set fz.toNat (Int.tdiv xz 4))), by omega, by go_num, ⟨by rw [List.length_set]; exact HOL.out⟩, ⟨Below.setCell B7.out (by rw [add_block]; exact HBL2.out) _⟩, ⟨by have := HWS.out; rw [HOL.out] at this; rw [HE21.out]; exact this⟩, ⟨by rw [HOUT.out]; exact HLP.out⟩, ⟨Low.set (n := 1000000 + i) (k := kz.toNat) (rows := rows.set jz.toNat (rj.set fz.toNat (Int.tdiv xz 4))) HLO.out (by rw [List.length_set]; have := HLO.out _ _ HRW.out; omega)⟩⟩
        case measure => simp [intOf]; omega
       ·rw [if_neg hr] at HST
        have r1 : decide ((0 : Int) < (rows.length : Int)) = false := decide_eq_false (by omega); have r2 : decide (0 < rows.length) = false := decide_eq_false hr; have HOUT := A_ (Option.some.inj HST.out); clear HST hr; go_wp2
        go_roundw
        case rel => exact ⟨m, i + 1, out, by omega, by go_num, HOL, B3, ⟨by have := V3.out; rw [HOL.out] at this; exact this⟩, ⟨by rw [HOUT.out]; exact HLP.out⟩, ⟨Low.succ (n := 1000000 + i) HLO.out⟩⟩
        case measure => simp [intOf]; omega
   ·rw [if_neg hg] at H
    obtain rfl := Option.some.inj H; have hol := HOL.out
    by_cases h1 : 3 * (i : Int) + 2 < l.length
    (· have hg1 : decide (3 * (i : Int) + 2 < (l.length : Int)) = true := decide_eq_true h1; have hg2 : decide ((0 : Int) < (l0.length : Int)) = false := decide_eq_false (by omega); have hg3 : decide (0 < l0.length) = false := decide_eq_false (by omega); clear hol; go_wp2; go_ret; exact ⟨_, rfl, HV.out, HB.out⟩); (· have hg1 : decide (3 * (i : Int) + 2 < (l.length : Int)) = false := decide_eq_false h1; clear hol; go_wp2; go_ret; exact ⟨_, rfl, HV.out, HB.out⟩)
theorem dioramaref36_Near.calls (A0 : Option Addr) (c0 : Nat) (l0 : List (List (List Int))) (A1 : Option Addr) (c1 : Nat) (l1 : List Int) (A2 : Option Addr) (c2 : Nat) (l2 : List Int) (r : List (List (List Int))) (w : World) (hr0 : Kd.C (Kd.slice 22 (Kd.slice 3 (Kd.int .i64))) w A0 l0.length l0) (hc0 : l0.length ≤ c0)
  (hr1 : Kd.C (Kd.int .i64) w A1 l1.length l1) (hc1 : l1.length ≤ c1) (hr2 : Kd.C (Kd.int .i64) w A2 l2.length l2) (hc2 : l2.length ≤ c2) (h : dioramaref36_Near.f l0 l1 l2 = some r) :
  Calls Try.prog 12 #[.slice A0 l0.length c0, .slice A1 l1.length c1, .slice A2 l2.length c2] w fun e w' => ∃ v0_ : Value, e = .returned (v0_) ∧ Kd.R (Kd.slice 22 (Kd.slice 3 (Kd.int .i64))) 64 w' w.heap.size (fun _ => True) v0_ r ∧ Below w.heap.size w w' := by
 unfold dioramaref36_Near.f at h
 split at h
 ·next hs =>
  simp only [Bool.and_eq_true, decide_eq_true_eq] at hs; refine (near_any A0 c0 l0 A1 c1 l1 A2 c2 l2 r w hr0 hr1 hc1 hr2 hc2 (smallB_small hs.1.1) hs.1.2 hs.2 h).mono ?_; rintro e w' ⟨v, rfl, hv, hb⟩; exact ⟨v, rfl, hv.R, hb⟩
 ·cases h
section
variable {W W1 w1 : World} {base k n c : Nat} {v vi : Value} {l : Wd} {rows : List (List Int)} {r : List Int} {f1 : Nat → Nat} {f2 : Nat → Nat × Nat}
theorem KindRep.one {ok : Nat → Prop} (hn : base ≤ n) (h : Kd.R (Kd.slice 3 (Kd.int .i64)) 22 W1 n ok v [r]) : KindRep W1 base (tagFrom n k f1) (tagFrom n (k, 0) f2) k v [r] := by
 obtain ⟨_, inner, h1, h2, h3⟩ := h
 have hl : inner.length = 1 := by have : inner.length = [r].length * 1 := h2; simpa using this
 obtain ⟨vi, rfl⟩ : ∃ vi, inner = [vi] := List.length_eq_one_iff.1 hl; obtain ⟨vi', e, h4⟩ := h3 0 r rfl
 have e : vi = vi' := by
  have e : [vi] = [vi'] := e; injection e
 subst e; have h5 := nums_of_R h4
 have low : ∀ {e s m : Nat} {v : Value} {xs : List Value}, W1.ownsRow n e s v m xs → W1.ownsRow base e s v m xs := fun h => by
  refine ⟨h.1, ?_⟩
  rcases h.2 with h | ⟨g, cap, cur, h6, h7, h8⟩
  (· exact .inl h); (· exact .inr ⟨g, cap, cur, h6, Nat.le_trans hn h7, h8⟩)
 refine ⟨[vi], low h1, fun b hb => tagFrom_ge (own_base h1 b hb), fun i r' hi => ?_⟩
 have e : i = 0 := by have := (List.getElem?_eq_some_iff.1 hi).1; simp at this; omega
 subst e
 have e : r = r' := by simpa using hi
 subst e; exact ⟨vi, rfl, low h5, fun b hb => tagFrom_ge (own_base h5 b hb)⟩
theorem WRep.put_one {ad : Addr} {vk : Value} {ok : Nat → Prop} (h : WRep W base (.slice (some ad) l.length c) l) (hk : l[k]? = some rows) (hy : W.cell? (ad.add k) = some vk) (hb : Below W.heap.size W W1)
  (hr : Kd.R (Kd.slice 3 (Kd.int .i64)) 22 W1 W.heap.size ok v [r]) : WRep (W1.setCell (ad.add k) v) base (.slice (some ad) l.length c) (l.set k [r]) := by
 obtain ⟨f1, f2, h⟩ := h; obtain ⟨⟨g, rfl⟩, hbg, h2⟩ := h.kind hk hy
 have hbs : base ≤ W.heap.size := by
  have := World.block_lt_of_cell? W _ hy; rw [add_head] at this; exact Nat.le_trans hbg (Nat.le_of_lt this)
 rw [add_head] at hy ⊢; exact ⟨tagFrom W.heap.size k f1, tagFrom W.heap.size (k, 0) f2, h.put (row := none) hk hy (Below.grown hb) (.inl rfl) (KindRep.one hbs hr) (fun b hb => tagFrom_lt hb) (fun b hb => tagFrom_lt hb)⟩
theorem WRep.put_nil {ad : Addr} {vk : Value} (h : WRep W base (.slice (some ad) l.length c) l) (hk : l[k]? = some rows) (hy : W.cell? (ad.add k) = some vk) : WRep (W.setCell (ad.add k) (.slice none 0 0)) base (.slice (some ad) l.length c) (l.set k []) := by
 obtain ⟨f1, f2, h⟩ := h; obtain ⟨⟨g, rfl⟩, hbg, h2⟩ := h.kind hk hy; rw [add_head] at hy ⊢; exact ⟨f1, f2, h.put (row := none) hk hy ⟨rfl, rfl, rfl, Nat.le_refl _, fun _ _ _ => rfl⟩ (.inl rfl) (KindRep.nil trivial) (fun _ _ => rfl) (fun _ _ => rfl)⟩
theorem WRep.cut {A : Option Addr} {m : Nat} (h : WRep W base (.slice A l.length c) l) (hm : m ≤ l.length) : WRep W base (.slice A m c) (l.take m) := by
 obtain ⟨f1, f2, vs, h1, h2⟩ := h; refine ⟨f1, f2, vs.take m, ?_, fun k rows hk => ?_⟩
 ·rw [List.length_take, Nat.min_eq_left hm]
  have := own_take h1 hm
  rwa [Nat.mul_one] at this
 (· have hi := (List.getElem?_eq_some_iff.1 hk).1; rw [List.length_take] at hi; rw [List.getElem?_take_of_lt (by omega)] at hk; obtain ⟨vk, h3, h4⟩ := h2 k rows hk; exact ⟨vk, by rw [List.getElem?_take_of_lt (by omega)]; exact h3, h4⟩)
theorem WRep.more (h : WRep W base v l) : ∃ vs, W.ownsRow base 64 1 v l.length vs ∧ ∀ (n : Nat) (w1 : World) (v1 : Value), W.grownBy w1 v.ownBlock → w1.ownsRow base 64 1 v1 (l.length + n) (vs ++ List.replicate n (.slice none 0 0)) → WRep w1 base v1 (l ++ List.replicate n []) := by
 obtain ⟨f1, f2, vs, h1, h2⟩ := h; refine ⟨vs, h1, fun n w1 v1 hg hown => ⟨f1, f2, vs ++ List.replicate n (.slice none 0 0), by rw [List.length_append, List.length_replicate]; exact hown, fun k rows hk => ?_⟩⟩
 have hne : ∀ b t c, W.heap[b]? = some (.cells c t (0, 0)) → t ≠ 64 → some b ≠ v.ownBlock := fun b t c hb ht e => by
  obtain ⟨c', hc'⟩ := own_typed h1 b e.symm; rw [hb] at hc'
  injection hc' with hc'
  injection hc' with _ hc'
  exact ht hc'
 have hmv : ∀ (k : Nat) vk rows, KindRep W base f1 f2 k vk rows → KindRep w1 base f1 f2 k vk rows := fun k vk rows h => h.move (fun b hl hb => hg.block b hl (by
  rcases hb with hb | ⟨c, hb⟩
  (· obtain ⟨cs, h5, _⟩ := h; obtain ⟨c, hc⟩ := own_typed h5 b hb; exact hne b 22 c hc (by decide))
  ·exact hne b 3 c hb (by decide))) (fun _ _ => rfl) (fun _ _ => rfl)
 have hvl : vs.length = l.length := by have := h1.1; omega
 by_cases hkl : k < l.length
 (· rw [List.getElem?_append_left hkl] at hk; obtain ⟨vk, h4, h5⟩ := h2 k rows hk; exact ⟨vk, by rw [List.getElem?_append_left (by omega)]; exact h4, hmv _ _ _ h5⟩); (· rw [List.getElem?_append_right (by omega)] at hk; have hkn := (List.getElem?_eq_some_iff.1 hk).1; rw [List.length_replicate] at hkn; rw [List.getElem?_replicate_of_lt hkn] at hk; obtain rfl := Option.some.inj hk; exact ⟨.slice none 0 0, by rw [List.getElem?_append_right (by omega), hvl, List.getElem?_replicate_of_lt hkn], KindRep.nil trivial⟩)
theorem CopyI.fresh {ok : Nat → Prop} (h : WRep W base v []) (hbs : base ≤ W.heap.size) (hb : Below W.heap.size W W1) (hr : Kd.R (Kd.slice 3 (Kd.int .i64)) 22 W1 W.heap.size ok vi [r]) : CopyI W1 base v [] vi [r] := by
 obtain ⟨f1, f2, h⟩ := h; refine ⟨tagFrom W.heap.size 0 f1, tagFrom W.heap.size (0, 0) f2, ?_, KindRep.one hbs hr⟩; exact h.beside (row := none) (Below.grown hb) (fun b hb => by cases hb) (fun b hb => tagFrom_lt hb) (fun b hb => tagFrom_lt hb)
theorem WRep.cap {A : Option Addr} (h : WRep W base (.slice A l.length c) l) : l.length ≤ c ∧ l.length ≤ 9223372036854775807 := by
 obtain ⟨f1, f2, vs, h1, h2⟩ := h
 rcases h1.2 with ⟨e, h⟩ | ⟨g, cap, cur, e, _, _, h3, h4, _⟩
 ·injection e with _ _ e
  omega
 ·injection e with _ _ e
  simp only [maxLen] at h4; omega
theorem append_cells_many {P : Program} {ops : Array Oper} {rest : List Oper} {o : Oper} {a : Act} {Q : Exit → Act → World → Prop} (m : Nat) {w0 W : World} (base : Nat) (hgd : o.guard = none) (s x : Operand) (t e : TypeId) (z : Value) (bytes : Nat)
  (ho : o.op = .call { callee := .builtin .append, args := #[s, x], argTypes := #[t, t] })
  (ht : P.underlying t = some (.slice e)) (hinfo : (P.info? e).map (fun i => (i.zero, i.size, i.bytes)) = some (some z, 1, bytes)) (hz : z.cells.size = 1) (hb0 : 0 < bytes)
  (v : Value) (n : Nat) (xs ys : List Value) (hs : a.eval s = v) (hx : a.eval x = .slice (some ⟨W.heap.size, 0, none⟩) m m) (hys : ys.length = m) (h1 : ∀ u ∈ ys, u.oneCell' = true)
  (HO : W.ownsRow base e 1 v n xs) (HB : Below base w0 W) (hbase : base ≤ W.heap.size) (hl : (n + m) * bytes ≤ 140737488355328)
  (h : ∀ v1 w1, w1.ownsRow base e 1 v1 (n + m) (xs ++ ys) → Below base w0 w1 → W.grownBy w1 v.ownBlock → wpList P ops Q rest (a.put o.dst v1) w1) :
  wpList P ops Q (o :: rest) a (W.alloc (.cells ys.toArray e)) := by
 obtain ⟨i0, hi, hzz⟩ := Option.map_eq_some_iff.1 hinfo; simp only [Prod.mk.injEq] at hzz; obtain ⟨hz0, hz1, hz2⟩ := hzz; have hlen : n + m ≤ 140737488355328 := Nat.le_trans (Nat.le_mul_of_pos_right _ hb0) hl
 refine wpList_append_own_at (W.alloc (.cells ys.toArray e)) hgd s x t ho base e i0 z 1 bytes ht hi hz0 hz1 hz2 hz (by decide) v n xs hs (HO.alloc _) ⟨W.heap.size, 0, none⟩ m m ys hx (by rw [hys]; simp)
  (by simpa using World.news_of_block (cs := ys.toArray) (t := e) (fr := (0, 0)) (heap_alloc_new W (.cells ys.toArray e))) h1 (by simp only [maxLen]; omega) hl (by simp; omega) ?_
 intro v1 w1 hown hg _ hat; exact h v1 w1 hown ((HB.alloc hbase _).grown hg (by simp; omega) (own_base HO)) (World.grownBy.trans (World.grownBy_alloc W _ _) hg)
theorem odd_grow (l0 : Wd) (k : Nat) (rows : List (List Int)) (j : Nat) : (l0.set k (rows ++ List.replicate j [1])).set k ((rows ++ List.replicate j [1]) ++ [[1]]) = l0.set k (rows ++ List.replicate (j + 1) [1]) := by
 rw [List.set_set, List.append_assoc, ← List.replicate_succ']
theorem reps_one_row {ok : Nat → Prop} (h : Kd.R (Kd.int .i64) 3 W base ok v r) : Reps ((Kd.slice 3 (Kd.int .i64)).M W base ok) (Kd.slice 3 (Kd.int .i64)).sz [r] [v] :=
 Reps.one (show (Kd.slice 3 (Kd.int .i64)).M W base ok r [v] from ⟨v, rfl, h⟩) (Reps.none _ _)
def oddR (l0 : Wd) (at_ how by_ : Int) : Wd :=
 if l0.length = 0 then [[[by_]]]
 else if arv how 6 = 0 then l0.set (arv at_ l0.length).toNat (rd_L2 l0 (arv at_ l0.length) ++ [List.replicate (arv by_ 12).toNat 0])
 else if arv how 6 = 1 then l0 ++ [[], [], [], []]
 else if arv how 6 = 2 then l0.take (arv at_ l0.length).toNat
 else if arv how 6 = 3 then l0.set (arv at_ l0.length).toNat (rd_L2 l0 (arv at_ l0.length) ++ List.replicate (509 + arv by_ 5).toNat [1])
 else if arv how 6 = 4 then l0.set (arv at_ l0.length).toNat [[]]
 else l0.set (arv at_ l0.length).toNat []
def dioramalaw36_odd.f (l0 : Wd) (at_ how by_ : Int) : Option Wd := if (smallB l0 && in64 at_ && in64 how && in64 by_) = true then some (oddR l0 at_ how by_) else none
end
set_option maxHeartbeats 4000000 in
set_option maxRecDepth 100000 in
theorem odd_empty (A0 : Option Addr) (c0 : Nat) (a h b : Int) (w : World) (hr0 : Kd.C (Kd.slice 22 (Kd.slice 3 (Kd.int .i64))) w A0 0 ([] : Wd)) :
  Calls Try.prog 13 #[.slice A0 0 c0, .int .i64 a, .int .i64 h, .int .i64 b] w fun e w' => ∃ v, e = .returned v ∧ WRep w' w.heap.size v [[[b]]] ∧ Below w.heap.size w w' := by
 have HR0 := A_ hr0; have HS : Aside0 (Small []) := ⟨by simp, fun k rows hk => by simp at hk⟩; clear hr0
 go_enter Try.func13, Try.ntmps13
 go_upto_region 3 with (go_at_call 35; refine (copy_any A0 c0 [] w HR0.out HS.out).mono ?_; rintro e w1 ⟨v1, rfl, hv, hb⟩; have HV1 := A_ hv; have HB1 := A_ hb; (obtain ⟨A, c, rfl⟩ : ∃ A c, v1 = .slice A 0 c := (by obtain ⟨_, _, h⟩ := HV1.out; obtain ⟨A, c, e, _⟩ := h.top; exact ⟨A, c, e⟩)); clear hv hb)
 go_wp2_with (first
  | ((with_reducible refine gate_dst (N := 19) rfl ?_); refine Kd.R_lit (Kd.int .i64) (w0 := w1) w1.heap.size 3 ?hg (N := 19) ?hd (xs := ([b] : List Int)) (inner := [.int .i64 b]) (ok := fun _ => True) (okp := fun _ => True) ?hr ?hp (fun _ hk => hk) trivial (Below.refl _ _) (Nat.le_refl _) (by simp) ?_; (case hd => rfl); (case hg => rfl); (case hr => first | (go_simp; done) | (go_simp; rfl)); (case hp => exact Reps.one (show Kd.M (Kd.int .i64) _ _ _ b [.int .i64 b] from rfl) (Reps.none _ _)); intro v5 w5 ho5 hb5 hg5 hn5; clear hg5 hn5; (obtain ⟨A5, c5, rfl⟩ := Kd.R_slice ho5); have HO5 := A_ ho5; have HBL1 := A_ hb5; clear ho5 hb5)
  | ((with_reducible refine gate_dst (N := 20) rfl ?_); refine Kd.R_lit (Kd.slice 3 (Kd.int .i64)) (w0 := w1) w1.heap.size 22 ?hg2 (N := 20) ?hd2 (xs := ([[b]] : List (List Int))) (inner := [.slice A5 1 c5]) (ok := fun _ => True) (okp := fun _ => True) ?hr2 ?hp2 (fun _ hk => hk) trivial ?hB2 ?hs2 (by simp) ?_; (case hd2 => rfl); (case hg2 => rfl); (case hr2 => first | (go_simp; done) | (go_simp; rfl)); (case hp2 => exact reps_one_row HO5.out); (case hB2 => exact HBL1.out); (case hs2 => exact (HBL1.out).size); intro v6 w6 ho6 hb6 hg6 hn6; clear hg6 hn6; have HO6 := A_ ho6; have HB6 := A_ hb6; have HCI := A_ (CopyI.fresh HV1.out HB1.out.size hb6 ho6); (obtain ⟨vs, hvs, ⟨A8, c8, rfl⟩, hdone⟩ := HCI.out.done); have HVS := A_ hvs; have HDN := A_ hdone; clear ho6 hb6 hvs hdone)
  | ((with_reducible refine gate_builtin (b := .append) (xs := #[.tmp 17, .tmp 21]) rfl ?_); at_builtin; refine print_append_cells (w0 := w) w.heap.size rfl (.tmp 17) (.tmp 21) 25 64 (.slice none 0 0) 1 24 rfl Try.underlying25 info64 rfl (by decide) (by decide) (.slice A 0 c) 0 vs [.slice A8 1 c8] rfl rfl rfl ?one ?own ?hb ?hbase ?hl ?_; (case one => intro u hu; simp only [List.mem_singleton] at hu; subst hu; rfl); (case own => exact HVS.out); (case hb => exact below_step HB1.out HB6.out); (case hbase => exact (below_step HB1.out HB6.out).size); (case hl => omega); intro v7 w7 hown7 hb7 hg7 hat7; have HO7 := A_ hown7; have HB7 := A_ hb7; have HG7 := A_ hg7; clear hown7 hb7 hg7 hat7))
 go_ret; exact ⟨_, rfl, HDN.out _ _ HG7.out HO7.out, HB7.out⟩
set_option maxHeartbeats 4000000 in
set_option maxRecDepth 100000 in
theorem odd_any (A0 : Option Addr) (c0 : Nat) (l0 : Wd) (a h b : Int) (w : World) (hr0 : Kd.C (Kd.slice 22 (Kd.slice 3 (Kd.int .i64))) w A0 l0.length l0) (hs : Small l0) (h0 : l0.length ≠ 0) (ha : in64 a = true) (hh : in64 h = true) (hb : in64 b = true) :
  Calls Try.prog 13 #[.slice A0 l0.length c0, .int .i64 a, .int .i64 h, .int .i64 b] w fun e w' => ∃ v, e = .returned v ∧ WRep w' w.heap.size v (oddR l0 a h b) ∧ Below w.heap.size w w' := by
 have HR0 := A_ hr0; have HS := A_ hs; have hlen0 := hs.1
 have hp : 0 < l0.length := by omega
 have q0 : decide ((l0.length : Int) = 0) = false := decide_eq_false (by omega); have q1 : ((l0.length : Int) == 0) = false := beq_eq_false_iff_ne.2 (by omega); obtain ⟨E4, k0, k1⟩ := arv_spec a (l0.length : Int) ha; obtain ⟨E5, m0, m1⟩ := arv_spec h 6 hh; replace k1 := k1 (by omega); replace m1 := m1 (by decide); have HC4 := A_ (fun W => dioramaref01_Around.calls a (l0.length : Int) _ W E4); have HC5 := A_ (fun W => dioramaref01_Around.calls h 6 _ W E5); have HC12 := A_ (fun W => dioramaref01_Around.calls b 12 _ W (arv_spec b 12 hb).1); have HCF := A_ (fun W => dioramaref01_Around.calls b 5 _ W (arv_spec b 5 hb).1); have HS12 := A_ (arv_spec b 12 hb).2; have HSF := A_ (arv_spec b 5 hb).2; have HOD : Aside0 (oddR l0 a h b = _) := ⟨by unfold oddR; rw [if_neg h0]⟩; generalize arv a (l0.length : Int) = kz at k0 k1 HC4 HOD; generalize arv h 6 = mz at m0 m1 HC5 HOD; generalize arv b 12 = b12 at HC12 HS12 HOD; generalize arv b 5 = b5 at HCF HSF HOD; have hrows := rd_L2_at l0 kz k0 k1; have HRW := A_ hrows; clear hrows; generalize rd_L2 l0 kz = rows at HRW HOD; clear hr0 hs h0 ha hh hb E4 E5
 go_enter Try.func13, Try.ntmps13
 go_upto_region 2 with (go_at_call 35; refine (copy_any A0 c0 l0 w HR0.out HS.out).mono ?_; rintro e w1 ⟨v1, rfl, hv, hb⟩; have HV1 := A_ hv; have HB1 := A_ hb; (obtain ⟨A, c, rfl⟩ : ∃ A c, v1 = .slice A l0.length c := (by obtain ⟨_, _, h⟩ := HV1.out; obtain ⟨A, c, e, _⟩ := h.top; exact ⟨A, c, e⟩)); clear hv hb)
 go_upto_region 5 with (go_at_call 36; with_reducible refine (HC4.out _).mono ?_; rintro e w2 ⟨rfl, hd⟩; have B2 := A_ (below_step HB1.out hd.below); have V2 := A_ (HV1.out.below hd.below); clear hd)
 go_upto_region 7 with (go_at_call 36; with_reducible refine (HC5.out _).mono ?_; rintro e w3 ⟨rfl, hd⟩; have B3 := A_ (below_step B2.out hd.below); have V3 := A_ (V2.out.below hd.below); clear hd)
 obtain ⟨hcap, _⟩ := V3.out.cap; obtain ⟨ad, c', hAe, _⟩ := V3.out.known HRW.out
 injection hAe with hAe hx1 hx2
 clear hx1 hx2; subst hAe; obtain ⟨A9, c9, hy, hc9, _, hfz⟩ := V3.out.seen HRW.out; have HBL := A_ (V3.out.base_le HRW.out); have HFZ := A_ hfz; have hrl := (HS.out.2 _ _ HRW.out).1; clear hfz
 by_cases z0 : mz = 0
 ·rw [if_pos z0] at HOD
  subst z0; obtain ⟨cs, hcs, hgrow⟩ := WRep.grow (W := w3.drew) V3.out HRW.out hy; have HCS := A_ hcs; have HGR := A_ hgrow; have HFY : Aside0 (w3.drew.frozen? (ad.add kz.toNat) = false) := HFZ; have HRL := A_ hrl; have HLT := A_ (show (ad.add kz.toNat).block < w3.drew.heap.size from World.block_lt_of_cell? _ _ hy); have HB4 : Aside0 (Below w.heap.size w w3.drew) := ⟨below_drew B3.out⟩; have hy4 : w3.drew.cell? (ad.add kz.toNat) = some (.slice A9 rows.length c9) := hy; have HY4 := A_ hy4; have HNT : Aside0 (some (ad.add kz.toNat).block ≠ (Value.slice A9 rows.length c9).ownBlock) := ⟨V3.out.top_ne HRW.out hcs⟩; clear hcs hgrow hy HFZ; obtain ⟨q, hq⟩ : ∃ q, q = List.replicate b12.toNat (0 : Int) := ⟨_, rfl⟩; have HQ := A_ hq; clear hq
  go_upto_region 8 with (fail)
  refine start_ (n := 13) (S := fun w' => w'.cell? (ad.add kz.toNat) = some (.slice A9 rows.length c9)) (ds := [12]) (B_ 13 0) (by kernel_rfl) rfl rfl (hy4) (fun hHeld => ?_); generalize w3.drew = w4 at HB4 HCS HGR HFY HLT hHeld HY4 hy4 ⊢; refine p_ 0 34 (B_ 13 1) ?_; refine p_ 1 35 (B_ 13 3) ?_; refine p_ 2 36 (B_ 13 7) ?_; refine p_ 3 37 (B_ 13 15) ?_; refine p_ 4 38 (B_ 13 31) ?_; refine p_ 6 40 (B_ 13 95) ?_; refine t_ 5 39 (B_ 13 127) hHeld ?_; refine one_ (i := 7) (N := some 41) (B_ 13 255) rfl rfl (by kernel_rfl) (by decide) (fun K hK => ?_); refine goes_ Try.func36 (by kernel_rfl) rfl #[.int .i64 b, .int .i64 12] (by rfl) rfl rfl (by simp only [List.map_toArray, List.map_cons, List.map_nil]; rfl) ?_
  with_reducible refine (HC12.out w4).mono ?_
  rintro e w5 ⟨rfl, hd⟩; refine ⟨_, rfl, ?_⟩; have HB5 := A_ hd.below; have hy4 := cell_below hd.below HY4.out; clear hd; refine hK.out _ _ (hy4) (fun hHeld => ?_); clear hK K; refine norm_ (a' := ?_) ?_ ?_; rotate_left
  ·show Act.put _ (some 41) _ = _
   simp only [Act.put, sA_, sB_, sC_, i64_w, i32_w]; rfl
  refine one_ (i := 8) (N := some 42) (B_ 13 511) rfl rfl (by kernel_rfl) (by decide) (fun K hK => ?_); refine Kd.R_make_step (Kd.int .i64) (w0 := w4) w4.heap.size 3 (by rfl) (N := 42) rfl 22 (.tmp 41) (.tmp 41) rfl b12 rfl rfl Try.underlying22 (.int .i64 0) 8 info3 rfl (by decide) (by decide) 0 (ok := fun _ => True) (okp := fun _ => True) rfl (fun _ h => h) trivial HS12.out.1 (by have := HS12.out.2 (by decide); omega) HB5.out HB5.out.size ?_; intro v6 w6 ho6 hb6 hg6 hn6; rw [← HQ.out] at ho6; obtain ⟨A6, c6, rfl⟩ := Kd.R_slice ho6; have HO6 := A_ ho6; have HB6 := A_ hb6; have HW6 := A_ (below_step HB4.out hb6); have hy6 := cell_below hb6 HY4.out; clear ho6 hb6 hg6 hn6 hy4; refine hK.out _ _ (hy6) (fun hHeld => ?_); clear hK K; refine norm_ (a' := ?_) ?_ ?_; rotate_left
  ·show Act.put _ (some 42) _ = _
   simp only [Act.put, sA_, sB_, sC_, i64_w, i32_w]; rfl
  refine one_ (i := 9) (N := some 43) (B_ 13 1023) rfl rfl (by kernel_rfl) (by decide) (fun K hK => ?_); refine value_ (w1 := ?_) (v := ?_) (by rfl) rfl ?_ ?_; rotate_left 2
  ·go_simp
   constructor; (· rfl); (· rfl)
  refine hK.out _ _ (cell_below (below_alloc (Below.refl _ _) _) hy6) (fun hHeld => ?_); clear hK K; refine norm_ (a' := ?_) ?_ ?_; rotate_left
  ·show Act.put _ (some 43) _ = _
   simp only [Act.put, sA_, sB_, sC_, i64_w, i32_w]; rfl
  refine one_ (i := 10) (N := some 44) (B_ 13 2047) rfl rfl (by kernel_rfl) (by decide) (fun K hK => ?_); refine step_append_cells (w0 := w) w.heap.size (by rfl) (.tmp 39) (.tmp 43) 64 22 (.slice none 0 0) 1 24 rfl Try.underlying64 info22 rfl (by decide) (by decide) (.slice A9 rows.length c9) rows.length cs [.slice A6 q.length c6] rfl rfl rfl (by intro u hu; simp only [List.mem_singleton] at hu; subst hu; rfl) (own_move HCS.out (fun b hb => HB6.out.block b (own_lt HCS.out b hb))) HW6.out HW6.out.size (by have := HRL.out; omega) ?_; intro v7 w7 hown7 hb7 hg7 hat7; obtain ⟨A8, c8, rfl⟩ := own_slice hown7; have HO7 := A_ hown7; have HB7 := A_ hb7; have HG7 := A_ hg7; have HA7 := A_ hat7; clear hown7 hb7 hat7; have hcz : ∃ v, w7.cell? (ad.add kz.toNat) = some v := ⟨_, hg7.cell hy6 (HNT.out)⟩; obtain ⟨vz, hcz⟩ := hcz; have hfz : w7.frozen? (ad.add kz.toNat) = false := (World.frozen?_of_block (hg7.block _ (World.block_lt_of_cell? _ _ hy6) HNT.out)).trans ((World.frozen?_of_block (HB6.out.block _ HLT.out)).trans HFY.out); refine hK.out _ _ (hg7.cell hy6 HNT.out) (fun hHeld => ?_); clear hK K; refine norm_ (a' := ?_) ?_ ?_; rotate_left
  ·show Act.put _ (some 44) _ = _
   simp only [Act.put, sA_, sB_, sC_, i64_w, i32_w]; rfl
  refine p_ 11 45 (B_ 13 4095) ?_; refine last_ (i := 12) (N := none) (B_ 13 8191) rfl rfl (by kernel_rfl) (by decide) (fun K hK => ?_); refine skip_ (w1 := ?_) (by rfl) rfl ?_ ?_; rotate_left; (· go_simp; rfl); refine hK.out _ _ ?_; clear hK K; refine done_ (by kernel_rfl) ?_; go_wp2; go_ret; exact ⟨_, rfl, by rw [HOD.out, ← HQ.out]; exact HGR.out _ _ _ _ _ _ HB6.out HO6.out HG7.out HA7.out HO7.out, Below.setCell HB7.out HBL.out _⟩
 rw [if_neg z0] at HOD; have y0 : (mz == 0) = false := beq_eq_false_iff_ne.2 z0
 by_cases z1 : mz = 1
 ·rw [if_pos z1] at HOD
  subst z1; obtain ⟨vs, hvs, hmore⟩ := V3.out.more; have HVS := A_ hvs; have HMO := A_ hmore; clear hvs hmore
  go_wp2_with ((with_reducible refine gate_builtin (b := .append) (xs := #[.tmp 48, .tmp 49]) rfl ?_); at_builtin; refine append_cells_many 4 (w0 := w) w.heap.size rfl (.tmp 48) (.tmp 49) 25 64 (.slice none 0 0) 24 rfl Try.underlying25 info64 rfl (by decide) (.slice (some ad) l0.length c) l0.length vs [.slice none 0 0, .slice none 0 0, .slice none 0 0, .slice none 0 0] rfl rfl rfl ?one ?own ?hb ?hbase ?hl ?_; (case one => intro u hu; simp at hu; subst hu; rfl); (case own => exact HVS.out); (case hb => exact B3.out); (case hbase => exact B3.out.size); (case hl => omega); intro v7 w7 hown7 hb7 hg7; have HO7 := A_ hown7; have HB7 := A_ hb7; have HG7 := A_ hg7; clear hown7 hb7 hg7)
  go_ret; exact ⟨_, rfl, by rw [HOD.out]; exact HMO.out 4 _ _ HG7.out HO7.out, HB7.out⟩
 rw [if_neg z1] at HOD; have y1 : (mz == 1) = false := beq_eq_false_iff_ne.2 z1
 by_cases z2 : mz = 2
 (· rw [if_pos z2] at HOD; subst z2; have HV4 := A_ (V3.out.cut (show kz.toNat ≤ l0.length by omega)); go_wp2; go_ret; exact ⟨_, rfl, by rw [HOD.out]; exact HV4.out, B3.out⟩); rw [if_neg z2] at HOD; have y2 : (mz == 2) = false := beq_eq_false_iff_ne.2 z2
 by_cases z3 : mz = 3
 ·rw [if_pos z3] at HOD
  subst z3; obtain ⟨hb50, hb51⟩ := HSF.out; replace hb51 := hb51 (by decide)
  have hst0 : l0.set kz.toNat (rows ++ List.replicate 0 [1]) = l0 := by
   rw [List.replicate_zero, List.append_nil]; obtain ⟨hk, e⟩ := List.getElem?_eq_some_iff.1 HRW.out; rw [← e, List.set_getElem_self]
  have HST := A_ hst0; have HRL := A_ hrl; clear hst0 hy HFZ hrl z0 z1 z2; go_wp2
  go_loopw [11] (fun u wr => ∃ j : Nat, (j : Int) ≤ 509 + b5 ∧ u = .int .i64 j ∧ Aside0 (Below w.heap.size w wr) ∧ Aside0 (WRep wr w.heap.size (.slice (some ad) l0.length c) (l0.set kz.toNat (rows ++ List.replicate j [1])))) (fun u _ => (509 + b5).toNat - (intOf u).toNat)
  case atStart => exact ⟨0, by omega, rfl, B3, ⟨by rw [HST.out]; exact V3.out⟩⟩
  case round =>
   obtain ⟨j, hj, rfl, HB, HV⟩ := hrel; obtain ⟨rr, hrr⟩ : ∃ rr, rr = rows ++ List.replicate j [1] := ⟨_, rfl⟩; have HGE := A_ (odd_grow l0 kz.toNat rows j); rw [← hrr] at HV HGE; obtain ⟨lc, hlc⟩ : ∃ lc, lc = l0.set kz.toNat rr := ⟨_, rfl⟩; rw [← hlc] at HV HGE
   have hll : lc.length = l0.length := by rw [hlc, List.length_set]
   have HRJ : Aside0 (lc[kz.toNat]? = some rr) := ⟨by rw [hlc]; exact List.getElem?_set_self (by omega)⟩; have HLL := A_ hll; have HV' := A_ (show WRep wr w.heap.size (.slice (some ad) lc.length c) lc by rw [HLL.out]; exact HV.out); have HRR := A_ (show rr.length ≤ 2000000 by rw [hrr, List.length_append, List.length_replicate]; have := HRL.out; omega); have HLC := A_ (hlc.trans (by rw [hrr])); clear hrr hlc hll HV
   by_cases hlt : (j : Int) < 509 + b5
   ·have f1 : decide ((j : Int) < 509 + b5) = true := decide_eq_true hlt
    go_wp2_with (first
     | (go_at_call 36; with_reducible refine (HCF.out _).mono ?_; rintro e w4 ⟨rfl, hd⟩; have B4 := A_ (below_step HB.out hd.below); have V4 := A_ (HV'.out.below hd.below); (obtain ⟨A9, c9, hy, _, _, hfz⟩ := V4.out.seen HRJ.out); (obtain ⟨cs, hcs, hgrow⟩ := V4.out.grow HRJ.out hy); have HCS := A_ hcs; have HGR := A_ hgrow; have HNT := A_ (V4.out.top_ne HRJ.out hcs); have HY := A_ hy; have HFZ := A_ hfz; clear hcs hgrow hfz hd)
     | ((with_reducible refine gate_dst (N := 71) rfl ?_); refine Kd.R_lit (Kd.int .i64) (w0 := w4) w4.heap.size 3 ?hg (N := 71) ?hd (xs := ([1] : List Int)) (inner := [.int .i64 1]) (ok := fun _ => True) (okp := fun _ => True) ?hr ?hp (fun _ hk => hk) trivial (Below.refl _ _) (Nat.le_refl _) (by simp) ?_; (case hd => rfl); (case hg => rfl); (case hr => first | (go_simp; done) | (go_simp; rfl)); (case hp => exact Reps.one (show Kd.M (Kd.int .i64) _ _ _ 1 [.int .i64 1] from rfl) (Reps.none _ _)); intro v5 w5 ho5 hb5 hg5 hn5; clear hg5 hn5; (obtain ⟨A5, c5, rfl⟩ := Kd.R_slice ho5); have HO5 := A_ ho5; have HBL1 := A_ hb5; have n0_ := cell_below hb5 hy; clear hy; have hy := n0_; clear n0_ ho5 hb5)
     | ((with_reducible refine gate_builtin (b := .append) (xs := #[.tmp 70, .tmp 72]) rfl ?_); at_builtin; refine print_append_cells (w0 := w) w.heap.size rfl (.tmp 70) (.tmp 72) 64 22 (.slice none 0 0) 1 24 rfl Try.underlying64 info22 rfl (by decide) (by decide) (.slice A9 rr.length c9) rr.length cs [.slice A5 1 c5] rfl rfl rfl ?one ?own ?hb ?hbase ?hl ?_; (case one => intro u hu; simp only [List.mem_singleton] at hu; subst hu; rfl); (case own => exact own_move HCS.out (fun b hb => HBL1.out.block b (own_lt HCS.out b hb))); (case hb => exact below_step B4.out HBL1.out); (case hbase => exact (below_step B4.out HBL1.out).size); (case hl => have := HRR.out; omega); intro v7 w7 hown7 hb7 hg7 hat7; (obtain ⟨A7, c7, rfl⟩ := own_slice hown7); have hcz := hg7.cell hy HNT.out; have hfz := (World.frozen?_of_block (hg7.block _ (World.block_lt_of_cell? _ _ hy) HNT.out)).trans (frozen_below HBL1.out HY.out HFZ.out); have HO7 := A_ hown7; have HB7 := A_ hb7; have HG7 := A_ hg7; have HA7 := A_ hat7; clear hown7 hb7 hg7 hat7 hy))
    have HW7 := A_ (HGR.out _ _ _ _ _ _ HBL1.out HO5.out HG7.out HA7.out HO7.out)
    go_roundw
    case rel => exact ⟨j + 1, by omega, by go_num, ⟨Below.setCell HB7.out HBL.out _⟩, ⟨by have := HW7.out; rw [HGE.out, HLL.out] at this; exact this⟩⟩
    case measure => simp [intOf]; omega
   ·have f1 : decide ((j : Int) < 509 + b5) = false := decide_eq_false hlt
    have hje : (509 + b5).toNat = j := by omega
    go_wp2_with (go_at_call 36; with_reducible refine (HCF.out _).mono ?_; rintro e w4 ⟨rfl, hd⟩; have B4 := A_ (below_step HB.out hd.below); have V4 := A_ (HV'.out.below hd.below); clear hd)
    go_ret; exact ⟨_, rfl, by rw [HOD.out, hje, ← HLC.out, ← HLL.out]; exact V4.out, B4.out⟩
 rw [if_neg z3] at HOD; have y3 : (mz == 3) = false := beq_eq_false_iff_ne.2 z3
 by_cases z4 : mz = 4
 ·rw [if_pos z4] at HOD
  subst z4; have hy2 := HFZ.out; have HY := A_ hy; have HLT := A_ (World.block_lt_of_cell? _ _ hy)
  go_wp2_with (first
  | ((with_reducible refine gate_dst (N := 79) rfl ?_); refine Kd.R_lit (Kd.int .i64) (w0 := w3) w3.heap.size 3 ?hg (N := 79) ?hd (xs := ([] : List Int)) (inner := []) (ok := fun _ => True) (okp := fun _ => True) ?hr ?hp (fun _ hk => hk) trivial (Below.refl _ _) (Nat.le_refl _) (by simp) ?_; (case hd => rfl); (case hg => rfl); (case hr => first | (go_simp; done) | (go_simp; rfl)); (case hp => exact Reps.none _ _); intro v5 w5 ho5 hb5 hg5 hn5; clear hg5 hn5; (obtain ⟨A5, c5, rfl⟩ := Kd.R_slice ho5); have HO5 := A_ ho5; have HBL1 := A_ hb5; clear ho5 hb5)
  | ((with_reducible refine gate_dst (N := 80) rfl ?_); refine Kd.R_lit (Kd.slice 3 (Kd.int .i64)) (w0 := w3) w3.heap.size 22 ?hg2 (N := 80) ?hd2 (xs := ([([] : List Int)] : List (List Int))) (inner := [.slice A5 0 c5]) (ok := fun _ => True) (okp := fun _ => True) ?hr2 ?hp2 (fun _ hk => hk) trivial ?hB2 ?hs2 (by simp) ?_; (case hd2 => rfl); (case hg2 => rfl); (case hr2 => first | (go_simp; done) | (go_simp; rfl)); (case hp2 => exact reps_one_row HO5.out); (case hB2 => exact HBL1.out); (case hs2 => exact (HBL1.out).size); intro v6 w6 ho6 hb6 hg6 hn6; clear hg6 hn6; (obtain ⟨A6, c6, rfl⟩ := Kd.R_slice ho6); have HO6 := A_ ho6; have HB6 := A_ hb6; have hy := cell_below hb6 HY.out; have hfz := frozen_below hb6 HY.out HFZ.out; clear ho6 hb6))
  go_ret; exact ⟨_, rfl, by rw [HOD.out]; exact V3.out.put_one HRW.out HY.out HB6.out HO6.out, Below.setCell (below_step B3.out HB6.out) HBL.out _⟩
 rw [if_neg z4] at HOD; have y4 : (mz == 4) = false := beq_eq_false_iff_ne.2 z4; have hfz := HFZ.out; have HV4 := A_ (V3.out.put_nil HRW.out hy); go_wp2; go_ret; exact ⟨_, rfl, by rw [HOD.out]; exact HV4.out, Below.setCell B3.out HBL.out _⟩
theorem dioramalaw36_odd.calls (A0 : Option Addr) (c0 : Nat) (l0 : List (List (List Int))) (a1 : Int) (a2 : Int) (a3 : Int) (r : List (List (List Int))) (w : World) (hr0 : Kd.C (Kd.slice 22 (Kd.slice 3 (Kd.int .i64))) w A0 l0.length l0) (hc0 : l0.length ≤ c0) (h : dioramalaw36_odd.f l0 a1 a2 a3 = some r) :
  Calls Try.prog 13 #[.slice A0 l0.length c0, .int .i64 a1, .int .i64 a2, .int .i64 a3] w fun e w' => ∃ v0_ : Value, e = .returned (v0_) ∧ Kd.R (Kd.slice 22 (Kd.slice 3 (Kd.int .i64))) 64 w' w.heap.size (fun _ => True) v0_ r ∧ Below w.heap.size w w' := by
 unfold dioramalaw36_odd.f at h
 split at h
 ·next hs =>
  simp only [Bool.and_eq_true] at hs; obtain rfl := Option.some.inj h
  by_cases h0 : l0.length = 0
  (· obtain rfl := List.length_eq_zero_iff.1 h0; have e : oddR [] a1 a2 a3 = [[[a3]]] := if_pos rfl; rw [e]; refine (odd_empty A0 c0 a1 a2 a3 w hr0).mono ?_; rintro e w' ⟨v, rfl, hv, hb⟩; exact ⟨v, rfl, hv.R, hb⟩); (· refine (odd_any A0 c0 l0 a1 a2 a3 w hr0 (smallB_small hs.1.1.1) h0 hs.1.1.2 hs.1.2 hs.2).mono ?_; rintro e w' ⟨v, rfl, hv, hb⟩; exact ⟨v, rfl, hv.R, hb⟩)
 ·cases h
def EvP {α : Type} (F : Nat → Option α) (P : α → Prop) : Prop := ∃ r, P r ∧ ∃ K, ∀ k, K ≤ k → F k = some r
abbrev Ev {α : Type} (F : Nat → Option α) (r : α) : Prop := EvP F (fun x => x = r)
section
variable {α β : Type} {F G : Nat → Option α} {P Q : α → Prop} {r : α}
theorem EvP.const (h : P r) : EvP (fun _ => some r) P := ⟨r, h, 0, fun _ _ => rfl⟩
theorem EvP.step (h : ∀ k, F (k + 1) = G k) (hg : EvP G P) : EvP F P := by
 obtain ⟨r, hr, K, hK⟩ := hg; refine ⟨r, hr, K + 1, fun k hk => ?_⟩; obtain ⟨j, rfl⟩ : ∃ j, k = j + 1 := ⟨k - 1, by omega⟩; rw [h]; exact hK j (by omega)
theorem EvP.bind {G : Nat → α → Option β} {Q : β → Prop} (hf : EvP F P) (hg : ∀ a, P a → EvP (fun k => G k a) Q) : EvP (fun k => (F k).bind (G k)) Q := by
 obtain ⟨a, ha, K, hK⟩ := hf; obtain ⟨b, hb, K', hK'⟩ := hg a ha; refine ⟨b, hb, max K K', fun k hk => ?_⟩; simp only [hK k (by omega), Option.bind_some]; exact hK' k (by omega)
theorem Ev.bind {G : Nat → α → Option β} {Q : β → Prop} (hf : Ev F r) (hg : EvP (fun k => G k r) Q) : EvP (fun k => (F k).bind (G k)) Q := EvP.bind hf (fun a ha => ha ▸ hg)
theorem EvP.known {o : Option α} {G : Nat → α → Option β} {Q : β → Prop} (ho : o = some r) (hg : EvP (fun k => G k r) Q) : EvP (fun k => o.bind (G k)) Q := by
 subst ho; exact hg
theorem EvP.pos {c : Prop} [Decidable c] (hc : c) (h : EvP F P) : EvP (fun k => if c then F k else G k) P := by simp only [if_pos hc]; exact h
theorem EvP.neg {c : Prop} [Decidable c] (hc : ¬c) (h : EvP G P) : EvP (fun k => if c then F k else G k) P := by simp only [if_neg hc]; exact h
theorem EvP.mono (h : EvP F P) (hp : ∀ r, P r → Q r) : EvP F Q := by
 obtain ⟨r, hr, hK⟩ := h; exact ⟨r, hp r hr, hK⟩
theorem Ev.at_ (h : Ev F r) : ∃ k, F k = some r := by
 obtain ⟨_, rfl, K, hK⟩ := h; exact ⟨K, hK K (Nat.le_refl _)⟩
end
theorem w64 {x : Int} (h0 : -9223372036854775808 ≤ x) (h1 : x ≤ 9223372036854775807) : wrap64 x = x := wrap64_id h0 h1
theorem w64s (i : Nat) (h : i < 9223372036854775807) : wrap64 ((i : Int) + 1) = ((i + 1 : Nat) : Int) := by rw [w64 (by omega) (by omega)]; omega
theorem sameInts_l0 (x y : List Int) (hl : x.length = y.length) (hx : x.length ≤ 4611686018427387904) : ∀ n i : Nat, i + n = x.length → Ev (fun k => dioramaref01_SameInts.l0 k x y i) (decide (x.drop i = y.drop i))
 | 0, i, h => by
  refine EvP.step (fun k => by rw [dioramaref01_SameInts.l0]) ?_; refine EvP.neg (by omega) ?_; rw [List.drop_eq_nil_of_le (by omega), List.drop_eq_nil_of_le (by omega)]; exact EvP.const (by simp)
 | n + 1, i, h => by
  have ih := sameInts_l0 x y hl hx n (i + 1) (by omega); refine EvP.step (fun k => by rw [dioramaref01_SameInts.l0]) ?_; refine EvP.pos (by omega) (EvP.pos (by omega) (EvP.pos (by omega) ?_)); rw [List.drop_eq_getElem_cons (show i < x.length by omega), List.drop_eq_getElem_cons (show i < y.length by omega)]; rw [rd_nat x i (by omega), rd_nat y i (by omega), w64s i (by omega)]
  by_cases he : x[i] = y[i]
  (· refine EvP.pos he (EvP.mono ih ?_); rintro r rfl; simp only [he, List.cons.injEq, true_and]); (· refine EvP.neg he (EvP.const ?_); simp only [List.cons.injEq, he, false_and, decide_false])
theorem sameInts_ev (x y : List Int) (hx : x.length ≤ 4611686018427387904) : Ev (fun k => dioramaref01_SameInts.f k x y) (decide (x = y)) := by
 unfold dioramaref01_SameInts.f
 by_cases hl : x.length = y.length
 ·refine EvP.pos (by omega) ?_
  have := sameInts_l0 x y hl hx x.length 0 (by omega)
  simpa using this
 ·refine EvP.neg (by omega) (EvP.const ?_)
  have : x ≠ y := fun e => hl (by rw [e])
  simp [this]
theorem same_ev (a : S76) (ha : a.f5.length ≤ 4611686018427387904) : Ev (fun k => dioramaref36_Same.f k a.f0 a.f1 a.f2 a.f3 a.f4 a.f5 a.f0 a.f1 a.f2 a.f3 a.f4 a.f5) true := by
 unfold dioramaref36_Same.f; refine EvP.pos rfl (EvP.pos rfl (EvP.pos rfl (EvP.pos rfl (EvP.pos rfl ?_)))); refine Ev.bind (sameInts_ev a.f5 a.f5 ha) (EvP.const ?_)
 simp
theorem rd_T76_nat (xs : List S76) (i : Nat) (h : i < xs.length) : rd_T76 xs i = xs[i] := by simp [rd_T76, List.getD_eq_getElem?_getD, h]
theorem rd_T61_nat (xs : List S61) (i : Nat) (h : i < xs.length) : rd_T61 xs i = xs[i] := by simp [rd_T61, List.getD_eq_getElem?_getD, h]
theorem rd_L1_nat (xs : List (List Int)) (i : Nat) (h : i < xs.length) : rd_L1 xs i = xs[i] := by simp [rd_L1, List.getD_eq_getElem?_getD, h]
theorem rd_L2_nat (xs : List (List (List Int))) (i : Nat) (h : i < xs.length) : rd_L2 xs i = xs[i] := by simp [rd_L2, List.getD_eq_getElem?_getD, h]
theorem sameAll_l0 (x : List S76) (hx : x.length ≤ 4611686018427387904) (hv : ∀ c ∈ x, c.f5.length ≤ 4611686018427387904) : ∀ n i : Nat, i + n = x.length → Ev (fun k => dioramaref36_SameAll.l0 k x x i) true
 | 0, i, h => by
  refine EvP.step (fun k => by rw [dioramaref36_SameAll.l0]) ?_; exact EvP.neg (by omega) (EvP.const rfl)
 | n + 1, i, h => by
  have ih := sameAll_l0 x hx hv n (i + 1) (by omega); refine EvP.step (fun k => by rw [dioramaref36_SameAll.l0]) ?_; refine EvP.pos (by omega) (EvP.pos (by omega) (EvP.pos (by omega) ?_)); rw [rd_T76_nat x i (by omega), w64s i (by omega)]; exact Ev.bind (same_ev x[i] (hv _ (List.getElem_mem _))) (EvP.pos rfl ih)
theorem sameAll_ev (x : List S76) (hx : x.length ≤ 4611686018427387904) (hv : ∀ c ∈ x, c.f5.length ≤ 4611686018427387904) : Ev (fun k => dioramaref36_SameAll.f k x x) true := by
 unfold dioramaref36_SameAll.f; exact EvP.pos rfl (sameAll_l0 x hx hv x.length 0 (by omega))
def toRef (c : S61) : S76 := ⟨c.f0, c.f1, c.f2, c.f3, c.f4, c.f5⟩
theorem plain_l0 (x : List S61) (hx : x.length < 2199023255552) : ∀ n i : Nat, i + n = x.length → Ev (fun k => dioramalaw36_plain.l0 k x ((x.take i).map toRef) i) (x.map toRef)
 | 0, i, h => by
  refine EvP.step (fun k => by rw [dioramalaw36_plain.l0]) ?_; refine EvP.neg (by omega) ?_; rw [List.take_of_length_le (by omega)]; exact EvP.const rfl
 | n + 1, i, h => by
  have ih := plain_l0 x hx n (i + 1) (by omega); refine EvP.step (fun k => by rw [dioramalaw36_plain.l0]) ?_; refine EvP.pos (by omega) (EvP.pos (by omega) (EvP.pos (by rw [List.length_map, List.length_take]; omega) ?_)); rw [w64s i (by omega), rd_T61_nat x i (by omega)]; rw [List.take_succ_eq_append_getElem (show i < x.length by omega), List.map_append] at ih; exact ih
theorem plain_ev (x : List S61) (hx : x.length < 2199023255552) : Ev (fun k => dioramalaw36_plain.f k x) (x.map toRef) := by
 unfold dioramalaw36_plain.f; have := plain_l0 x hx x.length 0 (by omega)
 simpa using this
theorem badLen_false {n n0 : Nat} (h : n = n0) (h1 : 1 ≤ n) (h2 : n ≤ 10) : badLen n n0 = false := by
 subst h
 simp [badLen]
 omega
theorem shaped_l1 (x0 : List (List (List Int))) (i : Nat) (hi : i < x0.length) (c : Nat) (hc : c + (rd_L2 x0 i).length ≤ 4611686018427387904) (R : Bool) (hb : anyBad (rd_L1 (rd_L2 x0 i) 0).length (rd_L2 x0 i) = true → R = false)
  (hg : anyBad (rd_L1 (rd_L2 x0 i) 0).length (rd_L2 x0 i) = false → Ev (fun k => dioramaref36_Shaped.l0 k x0 ((c + (rd_L2 x0 i).length : Nat) : Int) (wrap64 ((i : Int) + 1))) R) :
  ∀ n j : Nat, j + n = (rd_L2 x0 i).length → anyBad (rd_L1 (rd_L2 x0 i) 0).length ((rd_L2 x0 i).take j) = false → Ev (fun k => dioramaref36_Shaped.l1 k x0 ((c + j : Nat) : Int) i j) R
 | 0, j, h, hok => by
  refine EvP.step (fun k => by rw [dioramaref36_Shaped.l1]) ?_; refine EvP.pos (by omega) (EvP.pos (by omega) (EvP.neg (by omega) ?_)); rw [List.take_of_length_le (by omega)] at hok
  have e : j = (rd_L2 x0 i).length := by omega
  rw [e]; exact hg hok
 | n + 1, j, h, hok => by
  have ih := shaped_l1 x0 i hi c hc R hb hg n (j + 1) (by omega)
  have hj : j < (rd_L2 x0 i).length := by omega
  have hall : badLen (rd_L2 x0 i)[j].length (rd_L1 (rd_L2 x0 i) 0).length = true → R = false := fun h => hb (by
   unfold anyBad; rw [List.any_eq_true]
   exact ⟨_, List.getElem_mem hj, h⟩)
  refine EvP.step (fun k => by rw [dioramaref36_Shaped.l1]) ?_; refine EvP.pos (by omega) (EvP.pos (by omega) (EvP.pos (by omega) (EvP.pos (by omega) ?_))); rw [rd_L1_nat _ j hj]
  by_cases h1 : (rd_L2 x0 i)[j].length < 1
  ·refine EvP.pos (by omega) (EvP.const (hall ?_).symm)
   simp [badLen, h1]
  refine EvP.neg (by omega) ?_
  by_cases h2 : 10 < (rd_L2 x0 i)[j].length
  ·refine EvP.pos (by omega) (EvP.const (hall ?_).symm)
   simp [badLen, h2]
  refine EvP.neg (by omega) (EvP.pos (by omega) ?_)
  by_cases h3 : (rd_L2 x0 i)[j].length = (rd_L1 (rd_L2 x0 i) 0).length
  (· refine EvP.pos (by omega) ?_; rw [w64s j (by omega), show ((c + j : Nat) : Int) + 1 = ((c + j : Nat) : Int) + 1 from rfl, w64s (c + j) (by omega)]; refine ih ?_; rw [List.take_succ_eq_append_getElem hj]; unfold anyBad at hok ⊢; rw [List.any_append, hok, List.any_cons, badLen_false h3 (by omega) (by omega)]; rfl)
  ·refine EvP.neg (by omega) (EvP.const (hall ?_).symm)
   simp [badLen, h3]
theorem shaped_l0 (x0 : List (List (List Int))) (hl : x0.length ≤ 4611686018427387904) (hs : sumLen x0 ≤ 4611686018427387904) : ∀ n i : Nat, i + n = x0.length →
  Ev (fun k => dioramaref36_Shaped.l0 k x0 (sumLen (x0.take i) : Nat) i) ((x0.drop i).all (fun r => !anyBad (rd_L1 r 0).length r) && decide (x0.length ≤ 6) && decide (sumLen x0 ≤ 512))
 | 0, i, h => by
  refine EvP.step (fun k => by rw [dioramaref36_Shaped.l0]) ?_; refine EvP.neg (by omega) ?_; rw [List.drop_eq_nil_of_le (by omega), List.take_of_length_le (by omega)]
  by_cases h6 : x0.length ≤ 6
  ·refine EvP.pos (by omega) (EvP.const ?_)
   have e : decide (((sumLen x0 : Nat) : Int) ≤ 512) = decide (sumLen x0 ≤ 512) := by rw [decide_eq_decide]; omega
   rw [e]
   simp [h6]
  ·refine EvP.neg (by omega) (EvP.const ?_)
   simp [h6]
 | n + 1, i, h => by
  have ih := shaped_l0 x0 hl hs n (i + 1) (by omega)
  have hi : i < x0.length := by omega
  have e2 := rd_L2_nat x0 i hi; have hsn := sumLen_snoc x0 i hi; have hst := sumLen_take x0 (i + 1); refine EvP.step (fun k => by rw [dioramaref36_Shaped.l0]) ?_; refine EvP.pos (by omega) ?_; have := shaped_l1 x0 i hi (sumLen (x0.take i)) (by rw [e2]; omega) ((x0.drop i).all (fun r => !anyBad (rd_L1 r 0).length r) && decide (x0.length ≤ 6) && decide (sumLen x0 ≤ 512)) ?_ ?_ (rd_L2 x0 i).length 0 (by omega) (by simp [anyBad]); (· exact this)
  ·intro hb
   rw [List.drop_eq_getElem_cons hi, List.all_cons, ← e2, hb]
   simp
  ·intro hb
   rw [w64s i (by omega), e2, ← hsn]; refine EvP.mono ih ?_; rintro r rfl; rw [List.drop_eq_getElem_cons hi, List.all_cons, ← e2, hb]
   simp
theorem shaped_ev (x0 : List (List (List Int))) (hl : x0.length ≤ 4611686018427387904) (hs : sumLen x0 ≤ 4611686018427387904) : Ev (fun k => dioramaref36_Shaped.f k x0) (shapedB x0) := by
 have := shaped_l0 x0 hl hs x0.length 0 (by omega); unfold dioramaref36_Shaped.f shapedB
 simpa [sumLen] using this
end Go.Proofs.Ytcgpemefmakjiaa.PX
namespace Go.Proofs.Ytcgpemefmakjiaa.PX
open Go.RowKit Go.Proofs.YtcgpemefmakjiaaW.PrintWords Go.Proofs.YtcgpemefmakjiaaW.PrintLast Go.Proofs.YtcgpemefmakjiaaW.PrintMore
attribute [local go_sem] max2_int min2_int max_two min_two max_three min_three max_four min_four   -- for this text's walks alone
def dioramaref36_Formed.f (a0_0 : Int) (a0_1 : Int) (a0_2 : Int) (a0_3 : Int) (a0_4 : Int) (l0_5 : List Int) : Option (Bool) := if a0_2 ≥ 0 then (some ((l0_5.length : Int) == 0)) else (if a0_2 ≥ (-2) then (if a0_3 = 0 then (if a0_4 = 0 then (if (l0_5.length : Int) ≥ 1 then (some (decide ((l0_5.length : Int) ≤ 10))) else (some false)) else (some false)) else (some false)) else (some false))
set_option maxHeartbeats 8000000 in
set_option maxRecDepth 100000 in
theorem dioramaref36_Formed.calls (a0_0 : Int) (a0_1 : Int) (a0_2 : Int) (a0_3 : Int) (a0_4 : Int) (A0_5 : Option Addr) (c0_5 : Nat) (l0_5 : List Int) (r : Bool) (w : World) (hr0_5 : Kd.C (Kd.int .i64) w A0_5 l0_5.length l0_5) (hc0_5 : l0_5.length ≤ c0_5) (h : dioramaref36_Formed.f a0_0 a0_1 a0_2 a0_3 a0_4 l0_5 = some r) :
  Calls Try.prog 69 #[.agg #[.int .i64 a0_0, .int .i64 a0_1, .int .i64 a0_2, .int .i64 a0_3, .int .i64 a0_4, .slice A0_5 l0_5.length c0_5]] w fun e w' => e = .returned (.bool r) ∧ Below w.heap.size w w' := by
 have hu76 := Try.underlying76; have HR0_5 := A_ hr0_5; have HC0_5 := A_ hc0_5; clear hr0_5 hc0_5; have HB := A_ (Below.refl w.heap.size w); have H : (if a0_2 ≥ 0 then (some ((l0_5.length : Int) == 0)) else (if a0_2 ≥ (-2) then (if a0_3 = 0 then (if a0_4 = 0 then (if (l0_5.length : Int) ≥ 1 then (some (decide ((l0_5.length : Int) ≤ 10))) else (some false)) else (some false)) else (some false)) else (some false))) = some r := h; clear h
 by_cases c2 : a0_2 ≥ 0
 ·rw [if_pos c2] at H
  have c2b0 : decide (0 ≤ a0_2) = true := decide_eq_true c2; clear c2; obtain rfl := Option.some.inj H
  go_enter Try.func69, Try.ntmps69
  go_wp2_with (first | ((with_reducible refine gate_dst (N := 1) rfl ?_); (try (refine gate_guard (by rfl) ?_; dsimp only)); refine box_event ?hg (N := 1) ?hd (cs := #[.int .i64 a0_0, .int .i64 a0_1, .int .i64 a0_2, .int .i64 a0_3, .int .i64 a0_4, .slice A0_5 l0_5.length c0_5]) (t := 76) ?hr ?_; (case hd => rfl); (case hg => rfl); (case hr => first | (go_simp; done) | (go_simp; rfl)); intro gb444 hg w3 hbox hb; have BK444 := A_ (hbox); have GW444 := A_ ((by rw [hg]; exact (below_size (bx_ HB)) : w.heap.size ≤ gb444)); have GE444 := A_ ((by rw [hg]; exact (below_size (bx_ HB)) : w.heap.size ≤ gb444)); replace HB := A_ (below_step (bx_ HB) hb); clear hb hbox hg; obtain ⟨hcz4_0, hcz4_1, hcz4_2, hcz4_3, hcz4_4, hcz4_5⟩ := k6_ BK444; obtain ⟨hfz4_0, hfz4_1, hfz4_2, hfz4_3, hfz4_4, hfz4_5⟩ := f6_ BK444))
  go_ret; exact ⟨ew_, by repeat (first | (with_reducible first | exact HB.out | apply below_alloc | apply pw_below_drewN | apply below_drew1 | refine below_set ?_ GE444.out) | exact HB.out)⟩
 ·rw [if_neg c2] at H
  have c2b0 : decide (0 ≤ a0_2) = false := decide_eq_false c2; clear c2
  by_cases c5 : a0_2 ≥ (-2)
  ·rw [if_pos c5] at H
   have c5b0 : decide ((-2) ≤ a0_2) = true := decide_eq_true c5; clear c5
   by_cases c6 : a0_3 = 0
   ·rw [if_pos c6] at H
    obtain ⟨c6b0, c6b1⟩ := be_ c6; clear c6
    by_cases c7 : a0_4 = 0
    ·rw [if_pos c7] at H
     obtain ⟨c7b0, c7b1⟩ := be_ c7; clear c7
     by_cases c8 : (l0_5.length : Int) ≥ 1
     ·rw [if_pos c8] at H
      have c8b0 : decide (1 ≤ (l0_5.length : Int)) = true := decide_eq_true c8; have c8b1 : decide (1 ≤ l0_5.length) = true := decide_eq_true (by omega); clear c8; obtain rfl := Option.some.inj H
      go_enter Try.func69, Try.ntmps69
      go_wp2_with (first | ((with_reducible refine gate_dst (N := 1) rfl ?_); (try (refine gate_guard (by rfl) ?_; dsimp only)); refine box_event ?hg (N := 1) ?hd (cs := #[.int .i64 a0_0, .int .i64 a0_1, .int .i64 a0_2, .int .i64 a0_3, .int .i64 a0_4, .slice A0_5 l0_5.length c0_5]) (t := 76) ?hr ?_; (case hd => rfl); (case hg => rfl); (case hr => first | (go_simp; done) | (go_simp; rfl)); intro gb444 hg w9 hbox hb; have BK444 := A_ (hbox); have GW444 := A_ ((by rw [hg]; exact (below_size (bx_ HB)) : w.heap.size ≤ gb444)); have GE444 := A_ ((by rw [hg]; exact (below_size (bx_ HB)) : w.heap.size ≤ gb444)); replace HB := A_ (below_step (bx_ HB) hb); clear hb hbox hg; obtain ⟨hcz10_0, hcz10_1, hcz10_2, hcz10_3, hcz10_4, hcz10_5⟩ := k6_ BK444; obtain ⟨hfz10_0, hfz10_1, hfz10_2, hfz10_3, hfz10_4, hfz10_5⟩ := f6_ BK444))
      go_ret; exact ⟨ew_, by repeat (first | (with_reducible first | exact HB.out | apply below_alloc | apply pw_below_drewN | apply below_drew1 | refine below_set ?_ GE444.out) | exact HB.out)⟩
     ·rw [if_neg c8] at H
      have c8b0 : decide (1 ≤ (l0_5.length : Int)) = false := decide_eq_false c8; have c8b1 : decide (1 ≤ l0_5.length) = false := decide_eq_false (by omega); clear c8; obtain rfl := Option.some.inj H
      go_enter Try.func69, Try.ntmps69
      go_wp2_with (first | ((with_reducible refine gate_dst (N := 1) rfl ?_); (try (refine gate_guard (by rfl) ?_; dsimp only)); refine box_event ?hg (N := 1) ?hd (cs := #[.int .i64 a0_0, .int .i64 a0_1, .int .i64 a0_2, .int .i64 a0_3, .int .i64 a0_4, .slice A0_5 l0_5.length c0_5]) (t := 76) ?hr ?_; (case hd => rfl); (case hg => rfl); (case hr => first | (go_simp; done) | (go_simp; rfl)); intro gb444 hg w11 hbox hb; have BK444 := A_ (hbox); have GW444 := A_ ((by rw [hg]; exact (below_size (bx_ HB)) : w.heap.size ≤ gb444)); have GE444 := A_ ((by rw [hg]; exact (below_size (bx_ HB)) : w.heap.size ≤ gb444)); replace HB := A_ (below_step (bx_ HB) hb); clear hb hbox hg; obtain ⟨hcz12_0, hcz12_1, hcz12_2, hcz12_3, hcz12_4, hcz12_5⟩ := k6_ BK444; obtain ⟨hfz12_0, hfz12_1, hfz12_2, hfz12_3, hfz12_4, hfz12_5⟩ := f6_ BK444))
      go_ret; exact ⟨ew_, by repeat (first | (with_reducible first | exact HB.out | apply below_alloc | apply pw_below_drewN | apply below_drew1 | refine below_set ?_ GE444.out) | exact HB.out)⟩
    ·rw [if_neg c7] at H
     obtain ⟨c7b0, c7b1⟩ := bn_ c7; obtain rfl := Option.some.inj H
     go_enter Try.func69, Try.ntmps69
     go_wp2_with (first | ((with_reducible refine gate_dst (N := 1) rfl ?_); (try (refine gate_guard (by rfl) ?_; dsimp only)); refine box_event ?hg (N := 1) ?hd (cs := #[.int .i64 a0_0, .int .i64 a0_1, .int .i64 a0_2, .int .i64 a0_3, .int .i64 a0_4, .slice A0_5 l0_5.length c0_5]) (t := 76) ?hr ?_; (case hd => rfl); (case hg => rfl); (case hr => first | (go_simp; done) | (go_simp; rfl)); intro gb444 hg w13 hbox hb; have BK444 := A_ (hbox); have GW444 := A_ ((by rw [hg]; exact (below_size (bx_ HB)) : w.heap.size ≤ gb444)); have GE444 := A_ ((by rw [hg]; exact (below_size (bx_ HB)) : w.heap.size ≤ gb444)); replace HB := A_ (below_step (bx_ HB) hb); clear hb hbox hg; obtain ⟨hcz14_0, hcz14_1, hcz14_2, hcz14_3, hcz14_4, hcz14_5⟩ := k6_ BK444; obtain ⟨hfz14_0, hfz14_1, hfz14_2, hfz14_3, hfz14_4, hfz14_5⟩ := f6_ BK444))
     go_ret; exact ⟨ew_, by repeat (first | (with_reducible first | exact HB.out | apply below_alloc | apply pw_below_drewN | apply below_drew1 | refine below_set ?_ GE444.out) | exact HB.out)⟩
   ·rw [if_neg c6] at H
    obtain ⟨c6b0, c6b1⟩ := bn_ c6; obtain rfl := Option.some.inj H
    go_enter Try.func69, Try.ntmps69
    go_wp2_with (first | ((with_reducible refine gate_dst (N := 1) rfl ?_); (try (refine gate_guard (by rfl) ?_; dsimp only)); refine box_event ?hg (N := 1) ?hd (cs := #[.int .i64 a0_0, .int .i64 a0_1, .int .i64 a0_2, .int .i64 a0_3, .int .i64 a0_4, .slice A0_5 l0_5.length c0_5]) (t := 76) ?hr ?_; (case hd => rfl); (case hg => rfl); (case hr => first | (go_simp; done) | (go_simp; rfl)); intro gb444 hg w15 hbox hb; have BK444 := A_ (hbox); have GW444 := A_ ((by rw [hg]; exact (below_size (bx_ HB)) : w.heap.size ≤ gb444)); have GE444 := A_ ((by rw [hg]; exact (below_size (bx_ HB)) : w.heap.size ≤ gb444)); replace HB := A_ (below_step (bx_ HB) hb); clear hb hbox hg; obtain ⟨hcz16_0, hcz16_1, hcz16_2, hcz16_3, hcz16_4, hcz16_5⟩ := k6_ BK444; obtain ⟨hfz16_0, hfz16_1, hfz16_2, hfz16_3, hfz16_4, hfz16_5⟩ := f6_ BK444))
    go_ret; exact ⟨ew_, by repeat (first | (with_reducible first | exact HB.out | apply below_alloc | apply pw_below_drewN | apply below_drew1 | refine below_set ?_ GE444.out) | exact HB.out)⟩
  ·rw [if_neg c5] at H
   have c5b0 : decide ((-2) ≤ a0_2) = false := decide_eq_false c5; clear c5; obtain rfl := Option.some.inj H
   go_enter Try.func69, Try.ntmps69
   go_wp2_with (first | ((with_reducible refine gate_dst (N := 1) rfl ?_); (try (refine gate_guard (by rfl) ?_; dsimp only)); refine box_event ?hg (N := 1) ?hd (cs := #[.int .i64 a0_0, .int .i64 a0_1, .int .i64 a0_2, .int .i64 a0_3, .int .i64 a0_4, .slice A0_5 l0_5.length c0_5]) (t := 76) ?hr ?_; (case hd => rfl); (case hg => rfl); (case hr => first | (go_simp; done) | (go_simp; rfl)); intro gb444 hg w17 hbox hb; have BK444 := A_ (hbox); have GW444 := A_ ((by rw [hg]; exact (below_size (bx_ HB)) : w.heap.size ≤ gb444)); have GE444 := A_ ((by rw [hg]; exact (below_size (bx_ HB)) : w.heap.size ≤ gb444)); replace HB := A_ (below_step (bx_ HB) hb); clear hb hbox hg; obtain ⟨hcz18_0, hcz18_1, hcz18_2, hcz18_3, hcz18_4, hcz18_5⟩ := k6_ BK444; obtain ⟨hfz18_0, hfz18_1, hfz18_2, hfz18_3, hfz18_4, hfz18_5⟩ := f6_ BK444))
   go_ret; exact ⟨ew_, by repeat (first | (with_reducible first | exact HB.out | apply below_alloc | apply pw_below_drewN | apply below_drew1 | refine below_set ?_ GE444.out) | exact HB.out)⟩
mutual
def dioramaref36_Fits.j0 : Nat → List (List (List Int)) → Bool → Int → Int → Int → Int → Int → List Int → Option (Int)
 | 0, _, _, _, _, _, _, _, _ => none
 | k + 1, x0, x20, x446000, x446001, x446002, x446003, x446004, x446005 => if x20 = true then (some 5) else (if 0 ≤ x446000 then (if x446000 < (x0.length : Int) then (if x446002 < 0 then (dioramaref36_Fits.j1 k (rd_L2 x0 x446000) ((rd_L2 x0 x446000).length : Int) (decide (((rd_L2 x0 x446000).length : Int) > 0)) x446000 x446001 x446002 x446003 x446004 x446005) else (dioramaref36_Fits.j1 k (rd_L2 x0 x446000) ((rd_L2 x0 x446000).length : Int) false x446000 x446001 x446002 x446003 x446004 x446005)) else (none)) else (none))
def dioramaref36_Fits.j1 : Nat → List (List Int) → Int → Bool → Int → Int → Int → Int → Int → List Int → Option (Int)
 | 0, _, _, _, _, _, _, _, _, _ => none
 | k + 1, x5, x6, x34, x446000, x446001, x446002, x446003, x446004, x446005 => if x34 = true then (if 0 < (x5.length : Int) then (if (x446005.length : Int) = ((rd_L1 x5 0).length : Int) then (dioramaref36_Fits.j2 k x5 x6 x446000 x446001 x446002 x446003 x446004 x446005) else (some 2)) else (none)) else (dioramaref36_Fits.j2 k x5 x6 x446000 x446001 x446002 x446003 x446004 x446005)
def dioramaref36_Fits.j2 : Nat → List (List Int) → Int → Int → Int → Int → Int → Int → List Int → Option (Int)
 | 0, _, _, _, _, _, _, _, _ => none
 | k + 1, x5, x6, x446000, x446001, x446002, x446003, x446004, x446005 => if x446002 = (-1) then (if x446001 = x6 then (some 0) else (some 5)) else (if x446001 < 0 then (dioramaref36_Fits.j3 k x5 x6 true x446000 x446001 x446002 x446003 x446004 x446005) else (dioramaref36_Fits.j3 k x5 x6 (decide (x446001 ≥ x6)) x446000 x446001 x446002 x446003 x446004 x446005))
def dioramaref36_Fits.j3 : Nat → List (List Int) → Int → Bool → Int → Int → Int → Int → Int → List Int → Option (Int)
 | 0, _, _, _, _, _, _, _, _, _ => none
 | k + 1, x5, x6, x58, x446000, x446001, x446002, x446003, x446004, x446005 => if x58 = true then (some 5) else (if 0 ≤ x446001 then (if x446001 < (x5.length : Int) then (if x446002 = (-2) then (if x446001 = (wrap64 (x6 - 1)) then ((dioramaref01_SameInts.f k (rd_L1 x5 x446001) x446005).bind fun t450 => (if t450 = true then (some 0) else (some 16))) else (some 5)) else (if x446002 ≥ ((rd_L1 x5 x446001).length : Int) then (some 5) else (if 0 ≤ x446002 then (if x446002 < ((rd_L1 x5 x446001).length : Int) then (if (rd (rd_L1 x5 x446001) x446002) = x446003 then (some 0) else (some 16)) else (none)) else (none)))) else (none)) else (none))
end
def dioramaref36_Fits.f (k : Nat) (l0 : List (List (List Int))) (a1_0 : Int) (a1_1 : Int) (a1_2 : Int) (a1_3 : Int) (a1_4 : Int) (l1_5 : List Int) : Option (Int) := (dioramaref36_Formed.f a1_0 a1_1 a1_2 a1_3 a1_4 l1_5).bind fun t446 => (if t446 = true then (if a1_0 < 0 then (dioramaref36_Fits.j0 k l0 true a1_0 a1_1 a1_2 a1_3 a1_4 l1_5) else (dioramaref36_Fits.j0 k l0 (decide (a1_0 ≥ (l0.length : Int))) a1_0 a1_1 a1_2 a1_3 a1_4 l1_5)) else (some 2))
set_option maxHeartbeats 8000000 in
set_option maxRecDepth 100000 in
theorem dioramaref36_Fits.calls (k : Nat) (A0 : Option Addr) (c0 : Nat) (l0 : List (List (List Int))) (a1_0 : Int) (a1_1 : Int) (a1_2 : Int) (a1_3 : Int) (a1_4 : Int) (A1_5 : Option Addr) (c1_5 : Nat) (l1_5 : List Int) (r : Int) (w : World) (hr0 : Kd.C (Kd.slice 22 (Kd.slice 3 (Kd.int .i64))) w A0 l0.length l0) (hc0 : l0.length ≤ c0) (hr1_5 : Kd.C (Kd.int .i64) w A1_5 l1_5.length l1_5) (hc1_5 : l1_5.length ≤ c1_5) (h : dioramaref36_Fits.f k l0 a1_0 a1_1 a1_2 a1_3 a1_4 l1_5 = some r) :
  Calls Try.prog 46 #[.slice A0 l0.length c0, .agg #[.int .i64 a1_0, .int .i64 a1_1, .int .i64 a1_2, .int .i64 a1_3, .int .i64 a1_4, .slice A1_5 l1_5.length c1_5]] w fun e w' => e = .returned (.int .i64 r) ∧ Below w.heap.size w w' := by
 have hu76 := Try.underlying76; have HR0 := A_ hr0; have HC0 := A_ hc0; clear hr0 hc0; have HR1_5 := A_ hr1_5; have HC1_5 := A_ hc1_5; clear hr1_5 hc1_5; have HB := A_ (Below.refl w.heap.size w); have H : ((dioramaref36_Formed.f a1_0 a1_1 a1_2 a1_3 a1_4 l1_5).bind fun t446 => (if t446 = true then (if a1_0 < 0 then (dioramaref36_Fits.j0 k l0 true a1_0 a1_1 a1_2 a1_3 a1_4 l1_5) else (dioramaref36_Fits.j0 k l0 (decide (a1_0 ≥ (l0.length : Int))) a1_0 a1_1 a1_2 a1_3 a1_4 l1_5)) else (some 2))) = some r := h; clear h; replace H := Option.bind_eq_some_iff.mp H; obtain ⟨t446, A30, H⟩ := H
 (try dsimp only at H)
 have A3 := A_ A30; clear A30
 by_cases c4 : t446 = true
 ·subst c4
  have H1 : (if a1_0 < 0 then (dioramaref36_Fits.j0 k l0 true a1_0 a1_1 a1_2 a1_3 a1_4 l1_5) else (dioramaref36_Fits.j0 k l0 (decide (a1_0 ≥ (l0.length : Int))) a1_0 a1_1 a1_2 a1_3 a1_4 l1_5)) = some r := by rw [if_pos rfl] at H; exact H
  clear H; have H := H1; clear H1; have HC5 := A_ H; clear H
  go_enter Try.func46, Try.ntmps46
  go_upto_region 3 with (first | ((with_reducible refine gate_dst (N := 3) rfl ?_); (try (refine gate_guard (by rfl) ?_; dsimp only)); refine box_event ?hg (N := 3) ?hd (cs := #[.int .i64 a1_0, .int .i64 a1_1, .int .i64 a1_2, .int .i64 a1_3, .int .i64 a1_4, .slice A1_5 l1_5.length c1_5]) (t := 76) ?hr ?_; (case hd => rfl); (case hg => rfl); (case hr => first | (go_simp; done) | (go_simp; rfl)); intro gb445 hg w6 hbox hb; have BK445 := A_ (hbox); have GW445 := A_ ((by rw [hg]; exact (below_size (bx_ HB)) : w.heap.size ≤ gb445)); have GE445 := A_ ((by rw [hg]; exact (below_size (bx_ HB)) : w.heap.size ≤ gb445)); replace HB := A_ (below_step (bx_ HB) hb); clear hb hbox hg; obtain ⟨hcz7_0, hcz7_1, hcz7_2, hcz7_3, hcz7_4, hcz7_5⟩ := k6_ BK445; obtain ⟨hfz7_0, hfz7_1, hfz7_2, hfz7_3, hfz7_4, hfz7_5⟩ := f6_ BK445) | (go_at_call 69; (with_reducible refine (dioramaref36_Formed.calls a1_0 a1_1 a1_2 a1_3 a1_4 _ _ l1_5 true _ ?side1 ?side2 A3.out).mono ?_); (case side1 => repeat (first | exact (Kd.C_below HR1_5.out HB.out) | (with_reducible refine Kd.C_alloc ?_ _) | (with_reducible refine Kd.C_drewN ?_ _) | (with_reducible refine Kd.C_drew ?_))); (case side2 => exact HC1_5.out); rintro e w8 ⟨rfl, hb⟩; replace BK445 := A_ (blk_below (g := gb445) (o := .cells #[.int .i64 a1_0, .int .i64 a1_1, .int .i64 a1_2, .int .i64 a1_3, .int .i64 a1_4, .slice A1_5 l1_5.length c1_5] 76 (0, 0)) (kx_ BK445) hb); replace HB := A_ (below_step (by repeat (first | (with_reducible first | exact HB.out | apply below_alloc | apply pw_below_drewN | apply below_drew1 | refine below_set ?_ GE445.out) | exact HB.out)) hb); (try clear hb); (try clear hb2); (try clear hk); (try clear hi)))
  repeat (go_quiet (first | ((with_reducible refine gate_dst (N := 3) rfl ?_); (try (refine gate_guard (by rfl) ?_; dsimp only)); refine box_event ?hg (N := 3) ?hd (cs := #[.int .i64 a1_0, .int .i64 a1_1, .int .i64 a1_2, .int .i64 a1_3, .int .i64 a1_4, .slice A1_5 l1_5.length c1_5]) (t := 76) ?hr ?_; (case hd => rfl); (case hg => rfl); (case hr => first | (go_simp; done) | (go_simp; rfl)); intro gb445 hg w6 hbox hb; have BK445 := A_ (hbox); have GW445 := A_ ((by rw [hg]; exact (below_size (bx_ HB)) : w.heap.size ≤ gb445)); have GE445 := A_ ((by rw [hg]; exact (below_size (bx_ HB)) : w.heap.size ≤ gb445)); replace HB := A_ (below_step (bx_ HB) hb); clear hb hbox hg; obtain ⟨hcz7_0, hcz7_1, hcz7_2, hcz7_3, hcz7_4, hcz7_5⟩ := k6_ BK445; obtain ⟨hfz7_0, hfz7_1, hfz7_2, hfz7_3, hfz7_4, hfz7_5⟩ := f6_ BK445) | (go_at_call 69; (with_reducible refine (dioramaref36_Formed.calls a1_0 a1_1 a1_2 a1_3 a1_4 _ _ l1_5 true _ ?side1 ?side2 A3.out).mono ?_); (case side1 => repeat (first | exact (Kd.C_below HR1_5.out HB.out) | (with_reducible refine Kd.C_alloc ?_ _) | (with_reducible refine Kd.C_drewN ?_ _) | (with_reducible refine Kd.C_drew ?_))); (case side2 => exact HC1_5.out); rintro e w8 ⟨rfl, hb⟩; replace BK445 := A_ (blk_below (g := gb445) (o := .cells #[.int .i64 a1_0, .int .i64 a1_1, .int .i64 a1_2, .int .i64 a1_3, .int .i64 a1_4, .slice A1_5 l1_5.length c1_5] 76 (0, 0)) (kx_ BK445) hb); replace HB := A_ (below_step (by repeat (first | (with_reducible first | exact HB.out | apply below_alloc | apply pw_below_drewN | apply below_drew1 | refine below_set ?_ GE445.out) | exact HB.out)) hb); (try clear hb); (try clear hb2); (try clear hk); (try clear hi))); go_upto_region 3 with (first | ((with_reducible refine gate_dst (N := 3) rfl ?_); (try (refine gate_guard (by rfl) ?_; dsimp only)); refine box_event ?hg (N := 3) ?hd (cs := #[.int .i64 a1_0, .int .i64 a1_1, .int .i64 a1_2, .int .i64 a1_3, .int .i64 a1_4, .slice A1_5 l1_5.length c1_5]) (t := 76) ?hr ?_; (case hd => rfl); (case hg => rfl); (case hr => first | (go_simp; done) | (go_simp; rfl)); intro gb445 hg w6 hbox hb; have BK445 := A_ (hbox); have GW445 := A_ ((by rw [hg]; exact (below_size (bx_ HB)) : w.heap.size ≤ gb445)); have GE445 := A_ ((by rw [hg]; exact (below_size (bx_ HB)) : w.heap.size ≤ gb445)); replace HB := A_ (below_step (bx_ HB) hb); clear hb hbox hg; obtain ⟨hcz7_0, hcz7_1, hcz7_2, hcz7_3, hcz7_4, hcz7_5⟩ := k6_ BK445; obtain ⟨hfz7_0, hfz7_1, hfz7_2, hfz7_3, hfz7_4, hfz7_5⟩ := f6_ BK445) | (go_at_call 69; (with_reducible refine (dioramaref36_Formed.calls a1_0 a1_1 a1_2 a1_3 a1_4 _ _ l1_5 true _ ?side1 ?side2 A3.out).mono ?_); (case side1 => repeat (first | exact (Kd.C_below HR1_5.out HB.out) | (with_reducible refine Kd.C_alloc ?_ _) | (with_reducible refine Kd.C_drewN ?_ _) | (with_reducible refine Kd.C_drew ?_))); (case side2 => exact HC1_5.out); rintro e w8 ⟨rfl, hb⟩; replace BK445 := A_ (blk_below (g := gb445) (o := .cells #[.int .i64 a1_0, .int .i64 a1_1, .int .i64 a1_2, .int .i64 a1_3, .int .i64 a1_4, .slice A1_5 l1_5.length c1_5] 76 (0, 0)) (kx_ BK445) hb); replace HB := A_ (below_step (by repeat (first | (with_reducible first | exact HB.out | apply below_alloc | apply pw_below_drewN | apply below_drew1 | refine below_set ?_ GE445.out) | exact HB.out)) hb); (try clear hb); (try clear hb2); (try clear hk); (try clear hi))))
  (try simp only [Act.put, sA_, sB_, sC_])
  go_cut [20] (fun v20 wc => ∃ (kq : Nat) (x20_4 : Bool), v20 = .bool x20_4 ∧ Aside0 (dioramaref36_Fits.j0 kq l0 x20_4 a1_0 a1_1 a1_2 a1_3 a1_4 l1_5 = some r) ∧ Aside0 (kq ≤ k) ∧ Aside0 (wc.heap[gb445]? = some (.cells #[.int .i64 a1_0, .int .i64 a1_1, .int .i64 a1_2, .int .i64 a1_3, .int .i64 a1_4, (.slice A1_5 l1_5.length c1_5)] 76 (0, 0))) ∧ Aside0 (Below w.heap.size w wc))
  case first =>
   have H := HC5.out; clear HC5
   by_cases c9 : a1_0 < 0
   ·rw [if_pos c9] at H
    have c9b0 := decide_eq_true c9; clear c9
    (first | rw [c9b0] | (simp only [i64_w, i32_w]; rw [c9b0]) | skip)
    have H' := A_ H; clear H; obtain ⟨hcz10_0, hcz10_1, hcz10_2, hcz10_3, hcz10_4, hcz10_5⟩ := k6_ BK445; obtain ⟨hfz10_0, hfz10_1, hfz10_2, hfz10_3, hfz10_4, hfz10_5⟩ := f6_ BK445; go_wp2
    repeat (go_quiet (fail); try go_wp2)
    go_meet
    case rel => exact ⟨_, (true), rf_, H', ⟨by first | omega | exact Nat.le_refl _⟩, ⟨kx_ BK445⟩, ⟨by repeat (first | (with_reducible first | exact HB.out | apply below_alloc | apply pw_below_drewN | apply below_drew1 | refine below_set ?_ GE445.out) | exact HB.out)⟩⟩
   ·rw [if_neg c9] at H
    have c9b0 := decide_eq_false c9; clear c9
    (first | rw [c9b0] | (simp only [i64_w, i32_w]; rw [c9b0]) | skip)
    have H' := A_ H; clear H; obtain ⟨hcz11_0, hcz11_1, hcz11_2, hcz11_3, hcz11_4, hcz11_5⟩ := k6_ BK445; obtain ⟨hfz11_0, hfz11_1, hfz11_2, hfz11_3, hfz11_4, hfz11_5⟩ := f6_ BK445; go_wp2
    repeat (go_quiet (fail); try go_wp2)
    go_meet
    case rel => exact ⟨_, (decide (a1_0 ≥ (l0.length : Int))), rf_, H', ⟨by first | omega | exact Nat.le_refl _⟩, ⟨kx_ BK445⟩, ⟨by repeat (first | (with_reducible first | exact HB.out | apply below_alloc | apply pw_below_drewN | apply below_drew1 | refine below_set ?_ GE445.out) | exact HB.out)⟩⟩
  case rest =>
   clear HC5
   try clear c4
   try clear hcz7_0
   try clear hcz7_1
   try clear hcz7_2
   try clear hcz7_3
   try clear hcz7_4
   try clear hcz7_5
   try clear hfz7_0
   try clear hfz7_1
   try clear hfz7_2
   try clear hfz7_3
   try clear hfz7_4
   try clear hfz7_5
   obtain ⟨kq, x20_4, rfl, HA, HJ4, BK445, HB⟩ := hcut
   cases kq with
   | zero => exact absurd HA.out (by simp [dioramaref36_Fits.j0])
   | succ kj4 =>
    have H := HA.out; clear HA; simp only [dioramaref36_Fits.j0] at H
    by_cases c12 : x20_4 = true
    ·subst c12
     have H1 : (some 5) = some r := by rw [if_pos rfl] at H; exact H
     clear H; have H := H1; clear H1; obtain rfl := Option.some.inj H; go_wp2
     repeat (go_quiet (fail); try go_wp2)
     go_ret; exact ⟨ew_, by repeat (first | (with_reducible first | exact HB.out | apply below_alloc | apply pw_below_drewN | apply below_drew1 | refine below_set ?_ GE445.out) | exact HB.out)⟩
    ·replace c12 := Bool.eq_false_iff.mpr c12
     subst c12
     have H1 : (if 0 ≤ a1_0 then (if a1_0 < (l0.length : Int) then (if a1_2 < 0 then (dioramaref36_Fits.j1 kj4 (rd_L2 l0 a1_0) ((rd_L2 l0 a1_0).length : Int) (decide (((rd_L2 l0 a1_0).length : Int) > 0)) a1_0 a1_1 a1_2 a1_3 a1_4 l1_5) else (dioramaref36_Fits.j1 kj4 (rd_L2 l0 a1_0) ((rd_L2 l0 a1_0).length : Int) false a1_0 a1_1 a1_2 a1_3 a1_4 l1_5)) else (none)) else (none)) = some r := by rw [if_neg (show ¬ (false = true) by decide)] at H; exact H
     clear H; have H := H1; clear H1
     by_cases c13 : 0 ≤ a1_0
     ·rw [if_pos c13] at H
      have c13b0 := decide_eq_true c13; clear c13
      by_cases c14 : a1_0 < (l0.length : Int)
      ·rw [if_pos c14] at H
       have c14b0 := decide_eq_true c14; clear c14; have HC15 := A_ H; clear H; obtain ⟨hcz16_0, hcz16_1, hcz16_2, hcz16_3, hcz16_4, hcz16_5⟩ := k6_ BK445; obtain ⟨hfz16_0, hfz16_1, hfz16_2, hfz16_3, hfz16_4, hfz16_5⟩ := f6_ BK445; have p447 : 0 ≤ (a1_0 : Int) := od_; have q447 : a1_0 < (l0.length : Int) := od_; obtain ⟨ad447, A447_0, c447_0, e447, hx447_0, hl447_0, hi447_0⟩ := at_L2 HR0.out a1_0 p447 q447
       cases e447
       replace hx447_0 := hc_ HB hx447_0; have HR447_0 := A_ hi447_0; have HC447_0 := A_ hl447_0; clear hi447_0 hl447_0; replace p447 := eq_true p447; replace q447 := eq_true q447
       go_upto_region 7 with (fail)
       repeat (go_quiet (fail); go_upto_region 7 with (fail))
       go_cut [34] (fun v34 wc => ∃ (kq : Nat) (x34_14 : Bool), v34 = .bool x34_14 ∧ Aside0 (dioramaref36_Fits.j1 kq (rd_L2 l0 a1_0) ((rd_L2 l0 a1_0).length : Int) x34_14 a1_0 a1_1 a1_2 a1_3 a1_4 l1_5 = some r) ∧ Aside0 (kq ≤ kj4) ∧ Aside0 (wc.heap[gb445]? = some (.cells #[.int .i64 a1_0, .int .i64 a1_1, .int .i64 a1_2, .int .i64 a1_3, .int .i64 a1_4, (.slice A1_5 l1_5.length c1_5)] 76 (0, 0))) ∧ Aside0 (Below w.heap.size w wc))
       case first =>
        have H := HC15.out; clear HC15
        by_cases c17 : a1_2 < 0
        ·rw [if_pos c17] at H
         have c17b0 := decide_eq_true c17; clear c17
         (first | rw [c17b0] | (simp only [i64_w, i32_w]; rw [c17b0]) | skip)
         have H' := A_ H; clear H; obtain ⟨hcz18_0, hcz18_1, hcz18_2, hcz18_3, hcz18_4, hcz18_5⟩ := k6_ BK445; obtain ⟨hfz18_0, hfz18_1, hfz18_2, hfz18_3, hfz18_4, hfz18_5⟩ := f6_ BK445; go_wp2
         repeat (go_quiet (fail); try go_wp2)
         go_meet
         case rel => exact ⟨_, (decide (((rd_L2 l0 a1_0).length : Int) > 0)), rf_, H', ⟨by have := HJ4.out; first | omega | exact Nat.le_refl _⟩, ⟨kx_ BK445⟩, ⟨by repeat (first | (with_reducible first | exact HB.out | apply below_alloc | apply pw_below_drewN | apply below_drew1 | refine below_set ?_ GE445.out) | exact HB.out)⟩⟩
        ·rw [if_neg c17] at H
         have c17b0 := decide_eq_false c17; clear c17
         (first | rw [c17b0] | (simp only [i64_w, i32_w]; rw [c17b0]) | skip)
         have H' := A_ H; clear H; obtain ⟨hcz19_0, hcz19_1, hcz19_2, hcz19_3, hcz19_4, hcz19_5⟩ := k6_ BK445; obtain ⟨hfz19_0, hfz19_1, hfz19_2, hfz19_3, hfz19_4, hfz19_5⟩ := f6_ BK445; go_wp2
         repeat (go_quiet (fail); try go_wp2)
         go_meet
         case rel => exact ⟨_, (false), rf_, H', ⟨by have := HJ4.out; first | omega | exact Nat.le_refl _⟩, ⟨kx_ BK445⟩, ⟨by repeat (first | (with_reducible first | exact HB.out | apply below_alloc | apply pw_below_drewN | apply below_drew1 | refine below_set ?_ GE445.out) | exact HB.out)⟩⟩
       case rest =>
        clear HC15
        try clear c4
        try clear c12
        try clear c13
        try clear c13b0
        try clear c14
        try clear c14b0
        try clear hcz16_0
        try clear hcz16_1
        try clear hcz16_2
        try clear hcz16_3
        try clear hcz16_4
        try clear hcz16_5
        try clear hcz7_0
        try clear hcz7_1
        try clear hcz7_2
        try clear hcz7_3
        try clear hcz7_4
        try clear hcz7_5
        try clear hfz16_0
        try clear hfz16_1
        try clear hfz16_2
        try clear hfz16_3
        try clear hfz16_4
        try clear hfz16_5
        try clear hfz7_0
        try clear hfz7_1
        try clear hfz7_2
        try clear hfz7_3
        try clear hfz7_4
        try clear hfz7_5
        try clear hx447_0
        try clear p447
        try clear q447
        obtain ⟨kq, x34_14, rfl, HA, HJ14, BK445, HB⟩ := hcut
        cases kq with
        | zero => exact absurd HA.out (by simp [dioramaref36_Fits.j1])
        | succ kj14 =>
         have H := HA.out; clear HA; simp only [dioramaref36_Fits.j1] at H; have HC20 := A_ H; clear H
         go_upto_if 34 with (fail)
         repeat (go_quiet (fail); go_upto_if 34 with (fail))
         go_cut [] (fun wc => ∃ (kq : Nat), Aside0 (dioramaref36_Fits.j2 kq (rd_L2 l0 a1_0) ((rd_L2 l0 a1_0).length : Int) a1_0 a1_1 a1_2 a1_3 a1_4 l1_5 = some r) ∧ Aside0 (kq ≤ kj14) ∧ Aside0 (wc.heap[gb445]? = some (.cells #[.int .i64 a1_0, .int .i64 a1_1, .int .i64 a1_2, .int .i64 a1_3, .int .i64 a1_4, (.slice A1_5 l1_5.length c1_5)] 76 (0, 0))) ∧ Aside0 (Below w.heap.size w wc))
         case first =>
          have H := HC20.out; clear HC20
          by_cases c21 : x34_14 = true
          ·subst c21
           have H1 : (if 0 < ((rd_L2 l0 a1_0).length : Int) then (if (l1_5.length : Int) = ((rd_L1 (rd_L2 l0 a1_0) 0).length : Int) then (dioramaref36_Fits.j2 kj14 (rd_L2 l0 a1_0) ((rd_L2 l0 a1_0).length : Int) a1_0 a1_1 a1_2 a1_3 a1_4 l1_5) else (some 2)) else (none)) = some r := by rw [if_pos rfl] at H; exact H
           clear H; have H := H1; clear H1
           by_cases c22 : 0 < ((rd_L2 l0 a1_0).length : Int)
           ·rw [if_pos c22] at H
            have c22b0 := decide_eq_true c22; have c22b1 : decide (0 < (rd_L2 l0 a1_0).length) = true := decide_eq_true (by omega); clear c22
            (first | rw [c22b0] | (simp only [i64_w, i32_w]; rw [c22b0]) | skip)
            by_cases c23 : (l1_5.length : Int) = ((rd_L1 (rd_L2 l0 a1_0) 0).length : Int)
            ·rw [if_pos c23] at H
             obtain ⟨c23b0, c23b1⟩ := be_ c23
             have c23b2 : (l1_5.length == (rd_L1 (rd_L2 l0 a1_0) 0).length) = true := by first | simpa using c23 | (simp at c23 ⊢; omega)
             clear c23; have H' := A_ H; clear H; obtain ⟨hcz24_0, hcz24_1, hcz24_2, hcz24_3, hcz24_4, hcz24_5⟩ := k6_ BK445; obtain ⟨hfz24_0, hfz24_1, hfz24_2, hfz24_3, hfz24_4, hfz24_5⟩ := f6_ BK445; have p448 : 0 ≤ (0 : Int) := (by omega); have q448 : 0 < ((rd_L2 l0 a1_0).length : Int) := od_; obtain ⟨ad448, A448_0, c448_0, e448, hx448_0, hl448_0, hi448_0⟩ := at_L1 HR447_0.out 0 p448 q448
             cases e448
             have qi448 : (0 < (rd_L2 l0 a1_0).length) = True := eq_true (by omega)
             (try rw [show ((0 : Int)).toNat = 0 from rfl] at hx448_0)
             (try rw [Addr.add_zero'] at hx448_0)
             replace hx448_0 := hc_ HB hx448_0; have HR448_0 := A_ hi448_0; have HC448_0 := A_ hl448_0; clear hi448_0 hl448_0; replace p448 := eq_true p448; replace q448 := eq_true q448; go_wp2
             repeat (go_quiet (fail); try go_wp2)
             go_meet
             case rel => exact ⟨_, H', ⟨by have := HJ4.out; have := HJ14.out; first | omega | exact Nat.le_refl _⟩, ⟨kx_ BK445⟩, ⟨by repeat (first | (with_reducible first | exact HB.out | apply below_alloc | apply pw_below_drewN | apply below_drew1 | refine below_set ?_ GE445.out) | exact HB.out)⟩⟩
            ·rw [if_neg c23] at H
             obtain ⟨c23b0, c23b1⟩ := bn_ c23
             have c23b2 : (l1_5.length == (rd_L1 (rd_L2 l0 a1_0) 0).length) = false := by first | simpa using c23 | (simp at c23 ⊢; omega)
             obtain rfl := Option.some.inj H; obtain ⟨hcz25_0, hcz25_1, hcz25_2, hcz25_3, hcz25_4, hcz25_5⟩ := k6_ BK445; obtain ⟨hfz25_0, hfz25_1, hfz25_2, hfz25_3, hfz25_4, hfz25_5⟩ := f6_ BK445; have p448 : 0 ≤ (0 : Int) := (by omega); have q448 : 0 < ((rd_L2 l0 a1_0).length : Int) := od_; obtain ⟨ad448, A448_0, c448_0, e448, hx448_0, hl448_0, hi448_0⟩ := at_L1 HR447_0.out 0 p448 q448
             cases e448
             have qi448 : (0 < (rd_L2 l0 a1_0).length) = True := eq_true (by omega)
             (try rw [show ((0 : Int)).toNat = 0 from rfl] at hx448_0)
             (try rw [Addr.add_zero'] at hx448_0)
             replace hx448_0 := hc_ HB hx448_0; have HR448_0 := A_ hi448_0; have HC448_0 := A_ hl448_0; clear hi448_0 hl448_0; replace p448 := eq_true p448; replace q448 := eq_true q448; go_wp2
             repeat (go_quiet (fail); try go_wp2)
             go_ret; exact ⟨ew_, by repeat (first | (with_reducible first | exact HB.out | apply below_alloc | apply pw_below_drewN | apply below_drew1 | refine below_set ?_ GE445.out) | exact HB.out)⟩
           (· rw [if_neg c22] at H; exact absurd H (by simp))
          ·replace c21 := Bool.eq_false_iff.mpr c21
           subst c21
           have H1 : (dioramaref36_Fits.j2 kj14 (rd_L2 l0 a1_0) ((rd_L2 l0 a1_0).length : Int) a1_0 a1_1 a1_2 a1_3 a1_4 l1_5) = some r := by rw [if_neg (show ¬ (false = true) by decide)] at H; exact H
           clear H; have H := H1; clear H1; have H' := A_ H; clear H; go_wp2
           repeat (go_quiet (fail); try go_wp2)
           go_meet
           case rel => exact ⟨_, H', ⟨by have := HJ4.out; have := HJ14.out; first | omega | exact Nat.le_refl _⟩, ⟨kx_ BK445⟩, ⟨by repeat (first | (with_reducible first | exact HB.out | apply below_alloc | apply pw_below_drewN | apply below_drew1 | refine below_set ?_ GE445.out) | exact HB.out)⟩⟩
         case rest =>
          clear HC20
          try clear c4
          try clear c12
          try clear c13
          try clear c13b0
          try clear c14
          try clear c14b0
          try clear hcz16_0
          try clear hcz16_1
          try clear hcz16_2
          try clear hcz16_3
          try clear hcz16_4
          try clear hcz16_5
          try clear hcz7_0
          try clear hcz7_1
          try clear hcz7_2
          try clear hcz7_3
          try clear hcz7_4
          try clear hcz7_5
          try clear hfz16_0
          try clear hfz16_1
          try clear hfz16_2
          try clear hfz16_3
          try clear hfz16_4
          try clear hfz16_5
          try clear hfz7_0
          try clear hfz7_1
          try clear hfz7_2
          try clear hfz7_3
          try clear hfz7_4
          try clear hfz7_5
          try clear hx447_0
          try clear p447
          try clear q447
          obtain ⟨kq, HA, HJ19, BK445, HB⟩ := hcut
          cases kq with
          | zero => exact absurd HA.out (by simp [dioramaref36_Fits.j2])
          | succ kj19 =>
           have H := HA.out; clear HA; simp only [dioramaref36_Fits.j2] at H
           by_cases c26 : a1_2 = (-1)
           ·rw [if_pos c26] at H
            obtain ⟨c26b0, c26b1⟩ := be_ c26; clear c26
            by_cases c27 : a1_1 = ((rd_L2 l0 a1_0).length : Int)
            ·rw [if_pos c27] at H
             obtain ⟨c27b0, c27b1⟩ := be_ c27; clear c27; obtain rfl := Option.some.inj H; obtain ⟨hcz28_0, hcz28_1, hcz28_2, hcz28_3, hcz28_4, hcz28_5⟩ := k6_ BK445; obtain ⟨hfz28_0, hfz28_1, hfz28_2, hfz28_3, hfz28_4, hfz28_5⟩ := f6_ BK445; go_wp2
             repeat (go_quiet (fail); try go_wp2)
             go_ret; exact ⟨ew_, by repeat (first | (with_reducible first | exact HB.out | apply below_alloc | apply pw_below_drewN | apply below_drew1 | refine below_set ?_ GE445.out) | exact HB.out)⟩
            ·rw [if_neg c27] at H
             obtain ⟨c27b0, c27b1⟩ := bn_ c27; obtain rfl := Option.some.inj H; obtain ⟨hcz29_0, hcz29_1, hcz29_2, hcz29_3, hcz29_4, hcz29_5⟩ := k6_ BK445; obtain ⟨hfz29_0, hfz29_1, hfz29_2, hfz29_3, hfz29_4, hfz29_5⟩ := f6_ BK445; go_wp2
             repeat (go_quiet (fail); try go_wp2)
             go_ret; exact ⟨ew_, by repeat (first | (with_reducible first | exact HB.out | apply below_alloc | apply pw_below_drewN | apply below_drew1 | refine below_set ?_ GE445.out) | exact HB.out)⟩
           ·rw [if_neg c26] at H
            obtain ⟨c26b0, c26b1⟩ := bn_ c26; have HC30 := A_ H; clear H; obtain ⟨hcz31_0, hcz31_1, hcz31_2, hcz31_3, hcz31_4, hcz31_5⟩ := k6_ BK445; obtain ⟨hfz31_0, hfz31_1, hfz31_2, hfz31_3, hfz31_4, hfz31_5⟩ := f6_ BK445
            go_upto_region 14 with (fail)
            repeat (go_quiet (fail); go_upto_region 14 with (fail))
            go_cut [58] (fun v58 wc => ∃ (kq : Nat) (x58_29 : Bool), v58 = .bool x58_29 ∧ Aside0 (dioramaref36_Fits.j3 kq (rd_L2 l0 a1_0) ((rd_L2 l0 a1_0).length : Int) x58_29 a1_0 a1_1 a1_2 a1_3 a1_4 l1_5 = some r) ∧ Aside0 (kq ≤ kj19) ∧ Aside0 (wc.heap[gb445]? = some (.cells #[.int .i64 a1_0, .int .i64 a1_1, .int .i64 a1_2, .int .i64 a1_3, .int .i64 a1_4, (.slice A1_5 l1_5.length c1_5)] 76 (0, 0))) ∧ Aside0 (Below w.heap.size w wc))
            case first =>
             have H := HC30.out; clear HC30
             by_cases c32 : a1_1 < 0
             ·rw [if_pos c32] at H
              have c32b0 := decide_eq_true c32; clear c32
              (first | rw [c32b0] | (simp only [i64_w, i32_w]; rw [c32b0]) | skip)
              have H' := A_ H; clear H; obtain ⟨hcz33_0, hcz33_1, hcz33_2, hcz33_3, hcz33_4, hcz33_5⟩ := k6_ BK445; obtain ⟨hfz33_0, hfz33_1, hfz33_2, hfz33_3, hfz33_4, hfz33_5⟩ := f6_ BK445; go_wp2
              repeat (go_quiet (fail); try go_wp2)
              go_meet
              case rel => exact ⟨_, (true), rf_, H', ⟨by have := HJ4.out; have := HJ14.out; have := HJ19.out; first | omega | exact Nat.le_refl _⟩, ⟨kx_ BK445⟩, ⟨by repeat (first | (with_reducible first | exact HB.out | apply below_alloc | apply pw_below_drewN | apply below_drew1 | refine below_set ?_ GE445.out) | exact HB.out)⟩⟩
             ·rw [if_neg c32] at H
              have c32b0 := decide_eq_false c32; clear c32
              (first | rw [c32b0] | (simp only [i64_w, i32_w]; rw [c32b0]) | skip)
              have H' := A_ H; clear H; obtain ⟨hcz34_0, hcz34_1, hcz34_2, hcz34_3, hcz34_4, hcz34_5⟩ := k6_ BK445; obtain ⟨hfz34_0, hfz34_1, hfz34_2, hfz34_3, hfz34_4, hfz34_5⟩ := f6_ BK445; go_wp2
              repeat (go_quiet (fail); try go_wp2)
              go_meet
              case rel => exact ⟨_, (decide (a1_1 ≥ ((rd_L2 l0 a1_0).length : Int))), rf_, H', ⟨by have := HJ4.out; have := HJ14.out; have := HJ19.out; first | omega | exact Nat.le_refl _⟩, ⟨kx_ BK445⟩, ⟨by repeat (first | (with_reducible first | exact HB.out | apply below_alloc | apply pw_below_drewN | apply below_drew1 | refine below_set ?_ GE445.out) | exact HB.out)⟩⟩
            case rest =>
             clear HC30
             try clear c4
             try clear c12
             try clear c13
             try clear c13b0
             try clear c14
             try clear c14b0
             try clear c26
             try clear c26b0
             try clear c26b1
             try clear hcz16_0
             try clear hcz16_1
             try clear hcz16_2
             try clear hcz16_3
             try clear hcz16_4
             try clear hcz16_5
             try clear hcz31_0
             try clear hcz31_1
             try clear hcz31_2
             try clear hcz31_3
             try clear hcz31_4
             try clear hcz31_5
             try clear hcz7_0
             try clear hcz7_1
             try clear hcz7_2
             try clear hcz7_3
             try clear hcz7_4
             try clear hcz7_5
             try clear hfz16_0
             try clear hfz16_1
             try clear hfz16_2
             try clear hfz16_3
             try clear hfz16_4
             try clear hfz16_5
             try clear hfz31_0
             try clear hfz31_1
             try clear hfz31_2
             try clear hfz31_3
             try clear hfz31_4
             try clear hfz31_5
             try clear hfz7_0
             try clear hfz7_1
             try clear hfz7_2
             try clear hfz7_3
             try clear hfz7_4
             try clear hfz7_5
             try clear hx447_0
             try clear p447
             try clear q447
             obtain ⟨kq, x58_29, rfl, HA, HJ29, BK445, HB⟩ := hcut
             cases kq with
             | zero => exact absurd HA.out (by simp [dioramaref36_Fits.j3])
             | succ kj29 =>
              have H := HA.out; clear HA; simp only [dioramaref36_Fits.j3] at H
              by_cases c35 : x58_29 = true
              ·subst c35
               have H1 : (some 5) = some r := by rw [if_pos rfl] at H; exact H
               clear H; have H := H1; clear H1; obtain rfl := Option.some.inj H; go_wp2
               repeat (go_quiet (fail); try go_wp2)
               go_ret; exact ⟨ew_, by repeat (first | (with_reducible first | exact HB.out | apply below_alloc | apply pw_below_drewN | apply below_drew1 | refine below_set ?_ GE445.out) | exact HB.out)⟩
              ·replace c35 := Bool.eq_false_iff.mpr c35
               subst c35
               have H1 : (if 0 ≤ a1_1 then (if a1_1 < ((rd_L2 l0 a1_0).length : Int) then (if a1_2 = (-2) then (if a1_1 = (wrap64 (((rd_L2 l0 a1_0).length : Int) - 1)) then ((dioramaref01_SameInts.f kj29 (rd_L1 (rd_L2 l0 a1_0) a1_1) l1_5).bind fun t450 => (if t450 = true then (some 0) else (some 16))) else (some 5)) else (if a1_2 ≥ ((rd_L1 (rd_L2 l0 a1_0) a1_1).length : Int) then (some 5) else (if 0 ≤ a1_2 then (if a1_2 < ((rd_L1 (rd_L2 l0 a1_0) a1_1).length : Int) then (if (rd (rd_L1 (rd_L2 l0 a1_0) a1_1) a1_2) = a1_3 then (some 0) else (some 16)) else (none)) else (none)))) else (none)) else (none)) = some r := by rw [if_neg (show ¬ (false = true) by decide)] at H; exact H
               clear H; have H := H1; clear H1
               by_cases c36 : 0 ≤ a1_1
               ·rw [if_pos c36] at H
                have c36b0 := decide_eq_true c36; clear c36
                by_cases c37 : a1_1 < ((rd_L2 l0 a1_0).length : Int)
                ·rw [if_pos c37] at H
                 have c37b0 := decide_eq_true c37; clear c37
                 by_cases c38 : a1_2 = (-2)
                 ·rw [if_pos c38] at H
                  obtain ⟨c38b0, c38b1⟩ := be_ c38; clear c38
                  by_cases c39 : a1_1 = (wrap64 (((rd_L2 l0 a1_0).length : Int) - 1))
                  ·rw [if_pos c39] at H
                   obtain ⟨c39b0, c39b1⟩ := be_ c39; clear c39; replace H := Option.bind_eq_some_iff.mp H; obtain ⟨t450, A400, H⟩ := H
                   (try dsimp only at H)
                   have A40 := A_ A400; clear A400
                   by_cases c41 : t450 = true
                   ·subst c41
                    have H1 : (some 0) = some r := by rw [if_pos rfl] at H; exact H
                    clear H; have H := H1; clear H1; obtain rfl := Option.some.inj H; obtain ⟨hcz42_0, hcz42_1, hcz42_2, hcz42_3, hcz42_4, hcz42_5⟩ := k6_ BK445; obtain ⟨hfz42_0, hfz42_1, hfz42_2, hfz42_3, hfz42_4, hfz42_5⟩ := f6_ BK445; have p449 : 0 ≤ (a1_1 : Int) := od_; have q449 : a1_1 < ((rd_L2 l0 a1_0).length : Int) := od_; obtain ⟨ad449, A449_0, c449_0, e449, hx449_0, hl449_0, hi449_0⟩ := at_L1 HR447_0.out a1_1 p449 q449
                    cases e449
                    replace hx449_0 := hc_ HB hx449_0; have HR449_0 := A_ hi449_0; have HC449_0 := A_ hl449_0; clear hi449_0 hl449_0; replace p449 := eq_true p449; replace q449 := eq_true q449
                    go_wp2_with (first | (go_at_call 31; (with_reducible refine (dioramaref01_SameInts.calls kj29 _ _ (rd_L1 (rd_L2 l0 a1_0) a1_1) _ _ l1_5 true _ ?side1 ?side2 ?side3 ?side4 A40.out).mono ?_); (case side1 => repeat (first | exact (Kd.C_below HR449_0.out HB.out) | (with_reducible refine Kd.C_alloc ?_ _) | (with_reducible refine Kd.C_drewN ?_ _) | (with_reducible refine Kd.C_drew ?_))); (case side2 => exact HC449_0.out); (case side3 => repeat (first | exact (Kd.C_below HR1_5.out HB.out) | (with_reducible refine Kd.C_alloc ?_ _) | (with_reducible refine Kd.C_drewN ?_ _) | (with_reducible refine Kd.C_drew ?_))); (case side4 => exact HC1_5.out); rintro e w' ⟨rfl, ⟨nd, rfl⟩⟩; (try first | exact ⟨rfl, _, World.drewN_drewN _ _ _⟩ | exact ⟨rfl, _, Eq.trans (World.drewN_drewN _ _ _) (congrArg (World.drewN _) (Nat.add_assoc _ _ _))⟩)))
                    repeat (go_quiet (first | (go_at_call 31; (with_reducible refine (dioramaref01_SameInts.calls kj29 _ _ (rd_L1 (rd_L2 l0 a1_0) a1_1) _ _ l1_5 true _ ?side1 ?side2 ?side3 ?side4 A40.out).mono ?_); (case side1 => repeat (first | exact (Kd.C_below HR449_0.out HB.out) | (with_reducible refine Kd.C_alloc ?_ _) | (with_reducible refine Kd.C_drewN ?_ _) | (with_reducible refine Kd.C_drew ?_))); (case side2 => exact HC449_0.out); (case side3 => repeat (first | exact (Kd.C_below HR1_5.out HB.out) | (with_reducible refine Kd.C_alloc ?_ _) | (with_reducible refine Kd.C_drewN ?_ _) | (with_reducible refine Kd.C_drew ?_))); (case side4 => exact HC1_5.out); rintro e w' ⟨rfl, ⟨nd, rfl⟩⟩; (try first | exact ⟨rfl, _, World.drewN_drewN _ _ _⟩ | exact ⟨rfl, _, Eq.trans (World.drewN_drewN _ _ _) (congrArg (World.drewN _) (Nat.add_assoc _ _ _))⟩))); try go_wp2_with (first | (go_at_call 31; (with_reducible refine (dioramaref01_SameInts.calls kj29 _ _ (rd_L1 (rd_L2 l0 a1_0) a1_1) _ _ l1_5 true _ ?side1 ?side2 ?side3 ?side4 A40.out).mono ?_); (case side1 => repeat (first | exact (Kd.C_below HR449_0.out HB.out) | (with_reducible refine Kd.C_alloc ?_ _) | (with_reducible refine Kd.C_drewN ?_ _) | (with_reducible refine Kd.C_drew ?_))); (case side2 => exact HC449_0.out); (case side3 => repeat (first | exact (Kd.C_below HR1_5.out HB.out) | (with_reducible refine Kd.C_alloc ?_ _) | (with_reducible refine Kd.C_drewN ?_ _) | (with_reducible refine Kd.C_drew ?_))); (case side4 => exact HC1_5.out); rintro e w' ⟨rfl, ⟨nd, rfl⟩⟩; (try first | exact ⟨rfl, _, World.drewN_drewN _ _ _⟩ | exact ⟨rfl, _, Eq.trans (World.drewN_drewN _ _ _) (congrArg (World.drewN _) (Nat.add_assoc _ _ _))⟩))))
                    go_ret; exact ⟨ew_, by repeat (first | (with_reducible first | exact HB.out | apply below_alloc | apply pw_below_drewN | apply below_drew1 | refine below_set ?_ GE445.out) | exact HB.out)⟩
                   ·replace c41 := Bool.eq_false_iff.mpr c41
                    subst c41
                    have H1 : (some 16) = some r := by rw [if_neg (show ¬ (false = true) by decide)] at H; exact H
                    clear H; have H := H1; clear H1; obtain rfl := Option.some.inj H; obtain ⟨hcz43_0, hcz43_1, hcz43_2, hcz43_3, hcz43_4, hcz43_5⟩ := k6_ BK445; obtain ⟨hfz43_0, hfz43_1, hfz43_2, hfz43_3, hfz43_4, hfz43_5⟩ := f6_ BK445; have p449 : 0 ≤ (a1_1 : Int) := od_; have q449 : a1_1 < ((rd_L2 l0 a1_0).length : Int) := od_; obtain ⟨ad449, A449_0, c449_0, e449, hx449_0, hl449_0, hi449_0⟩ := at_L1 HR447_0.out a1_1 p449 q449
                    cases e449
                    replace hx449_0 := hc_ HB hx449_0; have HR449_0 := A_ hi449_0; have HC449_0 := A_ hl449_0; clear hi449_0 hl449_0; replace p449 := eq_true p449; replace q449 := eq_true q449
                    go_wp2_with (first | (go_at_call 31; (with_reducible refine (dioramaref01_SameInts.calls kj29 _ _ (rd_L1 (rd_L2 l0 a1_0) a1_1) _ _ l1_5 false _ ?side1 ?side2 ?side3 ?side4 A40.out).mono ?_); (case side1 => repeat (first | exact (Kd.C_below HR449_0.out HB.out) | (with_reducible refine Kd.C_alloc ?_ _) | (with_reducible refine Kd.C_drewN ?_ _) | (with_reducible refine Kd.C_drew ?_))); (case side2 => exact HC449_0.out); (case side3 => repeat (first | exact (Kd.C_below HR1_5.out HB.out) | (with_reducible refine Kd.C_alloc ?_ _) | (with_reducible refine Kd.C_drewN ?_ _) | (with_reducible refine Kd.C_drew ?_))); (case side4 => exact HC1_5.out); rintro e w' ⟨rfl, ⟨nd, rfl⟩⟩; (try first | exact ⟨rfl, _, World.drewN_drewN _ _ _⟩ | exact ⟨rfl, _, Eq.trans (World.drewN_drewN _ _ _) (congrArg (World.drewN _) (Nat.add_assoc _ _ _))⟩)))
                    repeat (go_quiet (first | (go_at_call 31; (with_reducible refine (dioramaref01_SameInts.calls kj29 _ _ (rd_L1 (rd_L2 l0 a1_0) a1_1) _ _ l1_5 false _ ?side1 ?side2 ?side3 ?side4 A40.out).mono ?_); (case side1 => repeat (first | exact (Kd.C_below HR449_0.out HB.out) | (with_reducible refine Kd.C_alloc ?_ _) | (with_reducible refine Kd.C_drewN ?_ _) | (with_reducible refine Kd.C_drew ?_))); (case side2 => exact HC449_0.out); (case side3 => repeat (first | exact (Kd.C_below HR1_5.out HB.out) | (with_reducible refine Kd.C_alloc ?_ _) | (with_reducible refine Kd.C_drewN ?_ _) | (with_reducible refine Kd.C_drew ?_))); (case side4 => exact HC1_5.out); rintro e w' ⟨rfl, ⟨nd, rfl⟩⟩; (try first | exact ⟨rfl, _, World.drewN_drewN _ _ _⟩ | exact ⟨rfl, _, Eq.trans (World.drewN_drewN _ _ _) (congrArg (World.drewN _) (Nat.add_assoc _ _ _))⟩))); try go_wp2_with (first | (go_at_call 31; (with_reducible refine (dioramaref01_SameInts.calls kj29 _ _ (rd_L1 (rd_L2 l0 a1_0) a1_1) _ _ l1_5 false _ ?side1 ?side2 ?side3 ?side4 A40.out).mono ?_); (case side1 => repeat (first | exact (Kd.C_below HR449_0.out HB.out) | (with_reducible refine Kd.C_alloc ?_ _) | (with_reducible refine Kd.C_drewN ?_ _) | (with_reducible refine Kd.C_drew ?_))); (case side2 => exact HC449_0.out); (case side3 => repeat (first | exact (Kd.C_below HR1_5.out HB.out) | (with_reducible refine Kd.C_alloc ?_ _) | (with_reducible refine Kd.C_drewN ?_ _) | (with_reducible refine Kd.C_drew ?_))); (case side4 => exact HC1_5.out); rintro e w' ⟨rfl, ⟨nd, rfl⟩⟩; (try first | exact ⟨rfl, _, World.drewN_drewN _ _ _⟩ | exact ⟨rfl, _, Eq.trans (World.drewN_drewN _ _ _) (congrArg (World.drewN _) (Nat.add_assoc _ _ _))⟩))))
                    go_ret; exact ⟨ew_, by repeat (first | (with_reducible first | exact HB.out | apply below_alloc | apply pw_below_drewN | apply below_drew1 | refine below_set ?_ GE445.out) | exact HB.out)⟩
                  ·rw [if_neg c39] at H
                   obtain ⟨c39b0, c39b1⟩ := bn_ c39; obtain rfl := Option.some.inj H; obtain ⟨hcz44_0, hcz44_1, hcz44_2, hcz44_3, hcz44_4, hcz44_5⟩ := k6_ BK445; obtain ⟨hfz44_0, hfz44_1, hfz44_2, hfz44_3, hfz44_4, hfz44_5⟩ := f6_ BK445; have p449 : 0 ≤ (a1_1 : Int) := od_; have q449 : a1_1 < ((rd_L2 l0 a1_0).length : Int) := od_; obtain ⟨ad449, A449_0, c449_0, e449, hx449_0, hl449_0, hi449_0⟩ := at_L1 HR447_0.out a1_1 p449 q449
                   cases e449
                   replace hx449_0 := hc_ HB hx449_0; have HR449_0 := A_ hi449_0; have HC449_0 := A_ hl449_0; clear hi449_0 hl449_0; replace p449 := eq_true p449; replace q449 := eq_true q449; go_wp2
                   repeat (go_quiet (fail); try go_wp2)
                   go_ret; exact ⟨ew_, by repeat (first | (with_reducible first | exact HB.out | apply below_alloc | apply pw_below_drewN | apply below_drew1 | refine below_set ?_ GE445.out) | exact HB.out)⟩
                 ·rw [if_neg c38] at H
                  obtain ⟨c38b0, c38b1⟩ := bn_ c38
                  by_cases c45 : a1_2 ≥ ((rd_L1 (rd_L2 l0 a1_0) a1_1).length : Int)
                  ·rw [if_pos c45] at H
                   have c45b0 : decide (((rd_L1 (rd_L2 l0 a1_0) a1_1).length : Int) ≤ a1_2) = true := decide_eq_true c45; clear c45; obtain rfl := Option.some.inj H; obtain ⟨hcz46_0, hcz46_1, hcz46_2, hcz46_3, hcz46_4, hcz46_5⟩ := k6_ BK445; obtain ⟨hfz46_0, hfz46_1, hfz46_2, hfz46_3, hfz46_4, hfz46_5⟩ := f6_ BK445; have p449 : 0 ≤ (a1_1 : Int) := od_; have q449 : a1_1 < ((rd_L2 l0 a1_0).length : Int) := od_; obtain ⟨ad449, A449_0, c449_0, e449, hx449_0, hl449_0, hi449_0⟩ := at_L1 HR447_0.out a1_1 p449 q449
                   cases e449
                   replace hx449_0 := hc_ HB hx449_0; have HR449_0 := A_ hi449_0; have HC449_0 := A_ hl449_0; clear hi449_0 hl449_0; replace p449 := eq_true p449; replace q449 := eq_true q449; go_wp2
                   repeat (go_quiet (fail); try go_wp2)
                   go_ret; exact ⟨ew_, by repeat (first | (with_reducible first | exact HB.out | apply below_alloc | apply pw_below_drewN | apply below_drew1 | refine below_set ?_ GE445.out) | exact HB.out)⟩
                  ·rw [if_neg c45] at H
                   have c45b0 : decide (((rd_L1 (rd_L2 l0 a1_0) a1_1).length : Int) ≤ a1_2) = false := decide_eq_false c45; clear c45
                   by_cases c47 : 0 ≤ a1_2
                   ·rw [if_pos c47] at H
                    have c47b0 := decide_eq_true c47; clear c47
                    by_cases c48 : a1_2 < ((rd_L1 (rd_L2 l0 a1_0) a1_1).length : Int)
                    ·rw [if_pos c48] at H
                     have c48b0 := decide_eq_true c48; clear c48
                     by_cases c49 : (rd (rd_L1 (rd_L2 l0 a1_0) a1_1) a1_2) = a1_3
                     ·rw [if_pos c49] at H
                      obtain ⟨c49b0, c49b1⟩ := be_ c49; clear c49; obtain rfl := Option.some.inj H; obtain ⟨hcz50_0, hcz50_1, hcz50_2, hcz50_3, hcz50_4, hcz50_5⟩ := k6_ BK445; obtain ⟨hfz50_0, hfz50_1, hfz50_2, hfz50_3, hfz50_4, hfz50_5⟩ := f6_ BK445; have p449 : 0 ≤ (a1_1 : Int) := od_; have q449 : a1_1 < ((rd_L2 l0 a1_0).length : Int) := od_; obtain ⟨ad449, A449_0, c449_0, e449, hx449_0, hl449_0, hi449_0⟩ := at_L1 HR447_0.out a1_1 p449 q449
                      cases e449
                      replace hx449_0 := hc_ HB hx449_0; have HR449_0 := A_ hi449_0; have HC449_0 := A_ hl449_0; clear hi449_0 hl449_0; replace p449 := eq_true p449; replace q449 := eq_true q449; have p451 : 0 ≤ (a1_2 : Int) := od_; have q451 : a1_2 < ((rd_L1 (rd_L2 l0 a1_0) a1_1).length : Int) := od_; obtain ⟨ad451, e451, hx451_0⟩ := Kd.at_int HR449_0.out a1_2 p451 q451
                      cases e451
                      replace hx451_0 := hc_ HB hx451_0; replace p451 := eq_true p451; replace q451 := eq_true q451; go_wp2
                      repeat (go_quiet (fail); try go_wp2)
                      go_ret; exact ⟨ew_, by repeat (first | (with_reducible first | exact HB.out | apply below_alloc | apply pw_below_drewN | apply below_drew1 | refine below_set ?_ GE445.out) | exact HB.out)⟩
                     ·rw [if_neg c49] at H
                      obtain ⟨c49b0, c49b1⟩ := bn_ c49; obtain rfl := Option.some.inj H; obtain ⟨hcz51_0, hcz51_1, hcz51_2, hcz51_3, hcz51_4, hcz51_5⟩ := k6_ BK445; obtain ⟨hfz51_0, hfz51_1, hfz51_2, hfz51_3, hfz51_4, hfz51_5⟩ := f6_ BK445; have p449 : 0 ≤ (a1_1 : Int) := od_; have q449 : a1_1 < ((rd_L2 l0 a1_0).length : Int) := od_; obtain ⟨ad449, A449_0, c449_0, e449, hx449_0, hl449_0, hi449_0⟩ := at_L1 HR447_0.out a1_1 p449 q449
                      cases e449
                      replace hx449_0 := hc_ HB hx449_0; have HR449_0 := A_ hi449_0; have HC449_0 := A_ hl449_0; clear hi449_0 hl449_0; replace p449 := eq_true p449; replace q449 := eq_true q449; have p451 : 0 ≤ (a1_2 : Int) := od_; have q451 : a1_2 < ((rd_L1 (rd_L2 l0 a1_0) a1_1).length : Int) := od_; obtain ⟨ad451, e451, hx451_0⟩ := Kd.at_int HR449_0.out a1_2 p451 q451
                      cases e451
                      replace hx451_0 := hc_ HB hx451_0; replace p451 := eq_true p451; replace q451 := eq_true q451; go_wp2
                      repeat (go_quiet (fail); try go_wp2)
                      go_ret; exact ⟨ew_, by repeat (first | (with_reducible first | exact HB.out | apply below_alloc | apply pw_below_drewN | apply below_drew1 | refine below_set ?_ GE445.out) | exact HB.out)⟩
                    (· rw [if_neg c48] at H; exact absurd H (by simp))
                   (· rw [if_neg c47] at H; exact absurd H (by simp))
                (· rw [if_neg c37] at H; exact absurd H (by simp))
               (· rw [if_neg c36] at H; exact absurd H (by simp))
      (· rw [if_neg c14] at H; exact absurd H (by simp))
     (· rw [if_neg c13] at H; exact absurd H (by simp))
 ·replace c4 := Bool.eq_false_iff.mpr c4
  subst c4
  have H1 : (some 2) = some r := by rw [if_neg (show ¬ (false = true) by decide)] at H; exact H
  clear H; have H := H1; clear H1; obtain rfl := Option.some.inj H
  go_enter Try.func46, Try.ntmps46
  go_wp2_with (first | ((with_reducible refine gate_dst (N := 3) rfl ?_); (try (refine gate_guard (by rfl) ?_; dsimp only)); refine box_event ?hg (N := 3) ?hd (cs := #[.int .i64 a1_0, .int .i64 a1_1, .int .i64 a1_2, .int .i64 a1_3, .int .i64 a1_4, .slice A1_5 l1_5.length c1_5]) (t := 76) ?hr ?_; (case hd => rfl); (case hg => rfl); (case hr => first | (go_simp; done) | (go_simp; rfl)); intro gb445 hg w52 hbox hb; have BK445 := A_ (hbox); have GW445 := A_ ((by rw [hg]; exact (below_size (bx_ HB)) : w.heap.size ≤ gb445)); have GE445 := A_ ((by rw [hg]; exact (below_size (bx_ HB)) : w.heap.size ≤ gb445)); replace HB := A_ (below_step (bx_ HB) hb); clear hb hbox hg; obtain ⟨hcz53_0, hcz53_1, hcz53_2, hcz53_3, hcz53_4, hcz53_5⟩ := k6_ BK445; obtain ⟨hfz53_0, hfz53_1, hfz53_2, hfz53_3, hfz53_4, hfz53_5⟩ := f6_ BK445) | (go_at_call 69; (with_reducible refine (dioramaref36_Formed.calls a1_0 a1_1 a1_2 a1_3 a1_4 _ _ l1_5 false _ ?side1 ?side2 A3.out).mono ?_); (case side1 => repeat (first | exact (Kd.C_below HR1_5.out HB.out) | (with_reducible refine Kd.C_alloc ?_ _) | (with_reducible refine Kd.C_drewN ?_ _) | (with_reducible refine Kd.C_drew ?_))); (case side2 => exact HC1_5.out); rintro e w54 ⟨rfl, hb⟩; replace BK445 := A_ (blk_below (g := gb445) (o := .cells #[.int .i64 a1_0, .int .i64 a1_1, .int .i64 a1_2, .int .i64 a1_3, .int .i64 a1_4, .slice A1_5 l1_5.length c1_5] 76 (0, 0)) (kx_ BK445) hb); replace HB := A_ (below_step (by repeat (first | (with_reducible first | exact HB.out | apply below_alloc | apply pw_below_drewN | apply below_drew1 | refine below_set ?_ GE445.out) | exact HB.out)) hb); (try clear hb); (try clear hb2); (try clear hk); (try clear hi)))
  repeat (go_quiet (first | ((with_reducible refine gate_dst (N := 3) rfl ?_); (try (refine gate_guard (by rfl) ?_; dsimp only)); refine box_event ?hg (N := 3) ?hd (cs := #[.int .i64 a1_0, .int .i64 a1_1, .int .i64 a1_2, .int .i64 a1_3, .int .i64 a1_4, .slice A1_5 l1_5.length c1_5]) (t := 76) ?hr ?_; (case hd => rfl); (case hg => rfl); (case hr => first | (go_simp; done) | (go_simp; rfl)); intro gb445 hg w52 hbox hb; have BK445 := A_ (hbox); have GW445 := A_ ((by rw [hg]; exact (below_size (bx_ HB)) : w.heap.size ≤ gb445)); have GE445 := A_ ((by rw [hg]; exact (below_size (bx_ HB)) : w.heap.size ≤ gb445)); replace HB := A_ (below_step (bx_ HB) hb); clear hb hbox hg; obtain ⟨hcz53_0, hcz53_1, hcz53_2, hcz53_3, hcz53_4, hcz53_5⟩ := k6_ BK445; obtain ⟨hfz53_0, hfz53_1, hfz53_2, hfz53_3, hfz53_4, hfz53_5⟩ := f6_ BK445) | (go_at_call 69; (with_reducible refine (dioramaref36_Formed.calls a1_0 a1_1 a1_2 a1_3 a1_4 _ _ l1_5 false _ ?side1 ?side2 A3.out).mono ?_); (case side1 => repeat (first | exact (Kd.C_below HR1_5.out HB.out) | (with_reducible refine Kd.C_alloc ?_ _) | (with_reducible refine Kd.C_drewN ?_ _) | (with_reducible refine Kd.C_drew ?_))); (case side2 => exact HC1_5.out); rintro e w54 ⟨rfl, hb⟩; replace BK445 := A_ (blk_below (g := gb445) (o := .cells #[.int .i64 a1_0, .int .i64 a1_1, .int .i64 a1_2, .int .i64 a1_3, .int .i64 a1_4, .slice A1_5 l1_5.length c1_5] 76 (0, 0)) (kx_ BK445) hb); replace HB := A_ (below_step (by repeat (first | (with_reducible first | exact HB.out | apply below_alloc | apply pw_below_drewN | apply below_drew1 | refine below_set ?_ GE445.out) | exact HB.out)) hb); (try clear hb); (try clear hb2); (try clear hk); (try clear hi))); try go_wp2_with (first | ((with_reducible refine gate_dst (N := 3) rfl ?_); (try (refine gate_guard (by rfl) ?_; dsimp only)); refine box_event ?hg (N := 3) ?hd (cs := #[.int .i64 a1_0, .int .i64 a1_1, .int .i64 a1_2, .int .i64 a1_3, .int .i64 a1_4, .slice A1_5 l1_5.length c1_5]) (t := 76) ?hr ?_; (case hd => rfl); (case hg => rfl); (case hr => first | (go_simp; done) | (go_simp; rfl)); intro gb445 hg w52 hbox hb; have BK445 := A_ (hbox); have GW445 := A_ ((by rw [hg]; exact (below_size (bx_ HB)) : w.heap.size ≤ gb445)); have GE445 := A_ ((by rw [hg]; exact (below_size (bx_ HB)) : w.heap.size ≤ gb445)); replace HB := A_ (below_step (bx_ HB) hb); clear hb hbox hg; obtain ⟨hcz53_0, hcz53_1, hcz53_2, hcz53_3, hcz53_4, hcz53_5⟩ := k6_ BK445; obtain ⟨hfz53_0, hfz53_1, hfz53_2, hfz53_3, hfz53_4, hfz53_5⟩ := f6_ BK445) | (go_at_call 69; (with_reducible refine (dioramaref36_Formed.calls a1_0 a1_1 a1_2 a1_3 a1_4 _ _ l1_5 false _ ?side1 ?side2 A3.out).mono ?_); (case side1 => repeat (first | exact (Kd.C_below HR1_5.out HB.out) | (with_reducible refine Kd.C_alloc ?_ _) | (with_reducible refine Kd.C_drewN ?_ _) | (with_reducible refine Kd.C_drew ?_))); (case side2 => exact HC1_5.out); rintro e w54 ⟨rfl, hb⟩; replace BK445 := A_ (blk_below (g := gb445) (o := .cells #[.int .i64 a1_0, .int .i64 a1_1, .int .i64 a1_2, .int .i64 a1_3, .int .i64 a1_4, .slice A1_5 l1_5.length c1_5] 76 (0, 0)) (kx_ BK445) hb); replace HB := A_ (below_step (by repeat (first | (with_reducible first | exact HB.out | apply below_alloc | apply pw_below_drewN | apply below_drew1 | refine below_set ?_ GE445.out) | exact HB.out)) hb); (try clear hb); (try clear hb2); (try clear hk); (try clear hi))))
  go_ret; exact ⟨ew_, by repeat (first | (with_reducible first | exact HB.out | apply below_alloc | apply pw_below_drewN | apply below_drew1 | refine below_set ?_ GE445.out) | exact HB.out)⟩
end Go.Proofs.Ytcgpemefmakjiaa.PX
namespace Go.Proofs.Ytcgpemefmakjiaa.PX
open Go.RowKit Go.Proofs.YtcgpemefmakjiaaW.PrintWords Go.Proofs.YtcgpemefmakjiaaW.PrintLast Go.Proofs.YtcgpemefmakjiaaW.PrintMore
theorem formed_ref (f0 f1 f2 f3 f4 : Int) (f5 : List Int) : dioramaref36_Formed.f f0 f1 f2 f3 f4 f5 = some (formedB f2 f3 f4 f5) := by
  unfold dioramaref36_Formed.f formedB
  by_cases h1 : 0 ≤ f2
  · rw [if_pos (by omega), if_pos h1]
    congr 1
    have e : ((f5.length : Int) == 0) = (f5.length == 0) := by rw [Bool.eq_iff_iff, beq_iff_eq, beq_iff_eq]; omega
    exact e
  · rw [if_neg (by omega), if_neg h1]
    by_cases h2 : -2 ≤ f2
    · rw [if_pos (by omega)]
      by_cases h3 : f3 = 0
      · rw [if_pos h3]
        by_cases h4 : f4 = 0
        · rw [if_pos h4]
          by_cases h5 : 1 ≤ f5.length
          · rw [if_pos (by omega)]
            have e : decide ((f5.length : Int) ≤ 10) = decide (f5.length ≤ 10) := by rw [decide_eq_decide]; omega
            rw [e]
            simp [h2, h3, h4, h5]
          · rw [if_neg (by omega)]
            simp [h5]
        · rw [if_neg h4]
          simp [h4]
      · rw [if_neg h3]
        simp [h3]
    · rw [if_neg (by omega)]
      simp [h2]
theorem fits_ev (l : Wd) (f0 f1 f2 f3 f4 : Int) (f5 : List Int) {n : Nat} (hg : Good n l) (hn : n ≤ 1000000) : Ev (fun k => dioramaref36_Fits.f k l f0 f1 f2 f3 f4 f5) (stepW l f0 f1 f2 f3 f4 f5).2 := by
  unfold dioramaref36_Fits.f stepW; refine EvP.known (formed_ref f0 f1 f2 f3 f4 f5) ?_
  by_cases hf : ¬ formedB f2 f3 f4 f5 = true
  · have hf' : formedB f2 f3 f4 f5 = false := by simpa using hf
    rw [if_pos hf']; exact EvP.neg hf (EvP.const rfl)
  have hf : formedB f2 f3 f4 f5 = true := by simpa using hf
  have hnf : ¬ formedB f2 f3 f4 f5 = false := by simp [hf]
  rw [if_neg hnf]; refine EvP.pos hf ?_
  by_cases hk : f0 < 0 ∨ (l.length : Int) ≤ f0
  · rw [if_pos hk]
    have hj : Ev (fun k => dioramaref36_Fits.j0 k l true f0 f1 f2 f3 f4 f5) 5 := EvP.step (fun k => by rw [dioramaref36_Fits.j0]) (EvP.pos rfl (EvP.const rfl))
    by_cases h0 : f0 < 0
    (· exact EvP.pos h0 hj); (· refine EvP.neg h0 ?_; have e : decide (f0 ≥ (l.length : Int)) = true := decide_eq_true (by omega); rw [e]; exact hj)
  rw [if_neg hk]; refine EvP.neg (by omega) ?_; have e : decide (f0 ≥ (l.length : Int)) = false := decide_eq_false (by omega); rw [e]; refine EvP.step (fun k => by rw [dioramaref36_Fits.j0]) (EvP.neg (by simp) (EvP.pos (by omega) (EvP.pos (by omega) ?_))); obtain ⟨hrn, hw⟩ := hg _ _ (rd_L2_at l f0 (by omega) (by omega)); generalize rd_L2 l f0 = rows at hrn hw; unfold stepK
  have hj3 : ∀ (b : Bool), (b = true ↔ f1 < 0 ∨ (rows.length : Int) ≤ f1) → f2 ≠ -1 → (f2 = -2 → rows.length ≠ 0 → f5.length = (rd_L1 rows 0).length) → Ev (fun k => dioramaref36_Fits.j3 k rows rows.length b f0 f1 f2 f3 f4 f5)
      (if f2 = -2 then (if rows.length = 0 ∨ f1 ≠ rows.length - 1 then (l, 5) else if rd_L1 rows f1 = f5 then (l.set f0.toNat (rows.take f1.toNat), 0) else (l, 16))
        else if f1 < 0 ∨ (rows.length : Int) ≤ f1 ∨ ((rd_L1 rows 0).length : Int) ≤ f2 then (l, 5)
        else if rd (rd_L1 rows f1) f2 ≠ f3 then (l, 16) else (l.set f0.toNat (rows.set f1.toNat ((rd_L1 rows f1).set f2.toNat f4)), 0)).2 := by
    intro b hb h1 hlen; refine EvP.step (fun k => by rw [dioramaref36_Fits.j3]) ?_
    by_cases hbt : b = true
    · have hbb := hb.1 hbt
      refine EvP.pos hbt (EvP.const ?_)
      by_cases h2 : f2 = -2
      (· rw [if_pos h2, if_pos (by omega)]); (· rw [if_neg h2, if_pos (by omega)])
    · have hbb : ¬(f1 < 0 ∨ (rows.length : Int) ≤ f1) := fun h => hbt (hb.2 h)
      have hr1 := hw _ _ (rd_L1_at rows f1 (by omega) (by omega)); refine EvP.neg hbt (EvP.pos (by omega) (EvP.pos (by omega) ?_))
      by_cases h2 : f2 = -2
      · rw [if_pos h2]
        refine EvP.pos h2 ?_; rw [w64 (x := (rows.length : Int) - 1) (by omega) (by omega)]
        by_cases h3 : f1 = rows.length - 1
        · rw [if_neg (by omega)]
          refine EvP.pos h3 (Ev.bind (sameInts_ev (rd_L1 rows f1) f5 ?_) ?_); (· have := (formed_neg hf (by omega)).2; have := hlen h2 (by omega); omega)
          · by_cases h4 : rd_L1 rows f1 = f5
            (· rw [if_pos h4]; exact EvP.pos (by simp [h4]) (EvP.const rfl)); (· rw [if_neg h4]; exact EvP.neg (by simp [h4]) (EvP.const rfl))
        (· rw [if_pos (by omega)]; exact EvP.neg h3 (EvP.const rfl))
      · rw [if_neg h2]
        refine EvP.neg h2 ?_
        have h2p : 0 ≤ f2 := by
          rcases Int.lt_or_le f2 0 with h | h
          (· have := (formed_neg hf h).1; omega); (· exact h)
        by_cases h3 : ((rd_L1 rows 0).length : Int) ≤ f2
        (· refine EvP.pos (by omega) ?_; rw [if_pos (by omega)]; exact EvP.const rfl)
        · refine EvP.neg (by omega) (EvP.pos h2p (EvP.pos (by omega) ?_))
          by_cases h4 : rd (rd_L1 rows f1) f2 = f3
          (· refine EvP.pos h4 ?_; rw [if_neg (by omega), if_neg (by simpa using h4)]; exact EvP.const rfl); (· refine EvP.neg h4 ?_; rw [if_neg (by omega), if_pos h4]; exact EvP.const rfl)
  have hj2 : (f2 < 0 → 0 < rows.length → f5.length = (rd_L1 rows 0).length) → Ev (fun k => dioramaref36_Fits.j2 k rows rows.length f0 f1 f2 f3 f4 f5)
      (if f2 = -1 then (if f1 = rows.length then (l.set f0.toNat (rows ++ [f5]), 0) else (l, 5))
        else if f2 = -2 then (if rows.length = 0 ∨ f1 ≠ rows.length - 1 then (l, 5) else if rd_L1 rows f1 = f5 then (l.set f0.toNat (rows.take f1.toNat), 0) else (l, 16))
        else if f1 < 0 ∨ (rows.length : Int) ≤ f1 ∨ ((rd_L1 rows 0).length : Int) ≤ f2 then (l, 5)
        else if rd (rd_L1 rows f1) f2 ≠ f3 then (l, 16) else (l.set f0.toNat (rows.set f1.toNat ((rd_L1 rows f1).set f2.toNat f4)), 0)).2 := by
    intro hlen; refine EvP.step (fun k => by rw [dioramaref36_Fits.j2]) ?_
    by_cases h1 : f2 = -1
    · rw [if_pos h1]
      refine EvP.pos h1 ?_
      by_cases h2 : f1 = rows.length
      (· refine EvP.pos h2 ?_; rw [if_pos h2]; exact EvP.const rfl); (· refine EvP.neg h2 ?_; rw [if_neg h2]; exact EvP.const rfl)
    · rw [if_neg h1]
      refine EvP.neg h1 ?_
      by_cases h0 : f1 < 0
      (· exact EvP.pos h0 (hj3 true (by simp [h0]) h1 (fun h2 h3 => hlen (by omega) (by omega)))); (· exact EvP.neg h0 (hj3 (decide (f1 ≥ (rows.length : Int))) (by simp [h0]) h1 (fun h2 h3 => hlen (by omega) (by omega))))
  have hj1 : ∀ b : Bool, (b = true ↔ f2 < 0 ∧ 0 < rows.length) → Ev (fun k => dioramaref36_Fits.j1 k rows rows.length b f0 f1 f2 f3 f4 f5)
      (if f2 < 0 ∧ 0 < rows.length ∧ f5.length ≠ (rd_L1 rows 0).length then (l, 2) else
      if f2 = -1 then (if f1 = rows.length then (l.set f0.toNat (rows ++ [f5]), 0) else (l, 5))
        else if f2 = -2 then (if rows.length = 0 ∨ f1 ≠ rows.length - 1 then (l, 5) else if rd_L1 rows f1 = f5 then (l.set f0.toNat (rows.take f1.toNat), 0) else (l, 16))
        else if f1 < 0 ∨ (rows.length : Int) ≤ f1 ∨ ((rd_L1 rows 0).length : Int) ≤ f2 then (l, 5)
        else if rd (rd_L1 rows f1) f2 ≠ f3 then (l, 16) else (l.set f0.toNat (rows.set f1.toNat ((rd_L1 rows f1).set f2.toNat f4)), 0)).2 := by
    intro b hb; refine EvP.step (fun k => by rw [dioramaref36_Fits.j1]) ?_
    by_cases hbt : b = true
    · obtain ⟨h1, h2⟩ := hb.1 hbt
      refine EvP.pos hbt (EvP.pos (by omega) ?_)
      by_cases h3 : f5.length = (rd_L1 rows 0).length
      (· rw [if_neg (by omega)]; exact EvP.pos (by omega) (hj2 (fun _ _ => h3))); (· rw [if_pos ⟨h1, h2, h3⟩]; exact EvP.neg (by omega) (EvP.const rfl))
    · have hbb : ¬(f2 < 0 ∧ 0 < rows.length) := fun h => hbt (hb.2 h)
      rw [if_neg (by omega)]; exact EvP.neg hbt (hj2 (fun h1 h2 => absurd ⟨h1, h2⟩ hbb))
  by_cases h2 : f2 < 0
  (· exact EvP.pos h2 (hj1 _ (by simp [h2]))); (· exact EvP.neg h2 (hj1 _ (by simp [h2])))
theorem step_ok (l : Wd) (c : S61) (h : (stepS l c).2 = 0) : 0 ≤ c.f0 ∧ c.f0 < l.length ∧
    ((c.f2 = -1 ∧ c.f5.length ≤ 10 ∧ (stepS l c).1 = l.set c.f0.toNat (rd_L2 l c.f0 ++ [c.f5])) ∨
     (c.f2 = -2 ∧ 0 ≤ c.f1 ∧ c.f1 < (rd_L2 l c.f0).length ∧ (stepS l c).1 = l.set c.f0.toNat ((rd_L2 l c.f0).take c.f1.toNat)) ∨
     (0 ≤ c.f2 ∧ 0 ≤ c.f1 ∧ c.f1 < (rd_L2 l c.f0).length ∧ c.f2 < (rd_L1 (rd_L2 l c.f0) 0).length ∧ (stepS l c).1 = l.set c.f0.toNat ((rd_L2 l c.f0).set c.f1.toNat ((rd_L1 (rd_L2 l c.f0) c.f1).set c.f2.toNat c.f4)))) := by
  unfold stepS stepW at h ⊢
  by_cases hf : formedB c.f2 c.f3 c.f4 c.f5 = false
  (· rw [if_pos hf] at h; exact absurd h (by simp)); rw [if_neg hf] at h ⊢
  have hf : formedB c.f2 c.f3 c.f4 c.f5 = true := by simpa using hf
  by_cases hk : c.f0 < 0 ∨ (l.length : Int) ≤ c.f0
  (· rw [if_pos hk] at h; exact absurd h (by simp)); rw [if_neg hk] at h ⊢; refine ⟨by omega, by omega, ?_⟩; unfold stepK at h ⊢; generalize rd_L2 l c.f0 = rows at h ⊢
  by_cases h1 : c.f2 < 0 ∧ 0 < rows.length ∧ c.f5.length ≠ (rd_L1 rows 0).length
  (· rw [if_pos h1] at h; exact absurd h (by simp)); rw [if_neg h1] at h ⊢
  by_cases h2 : c.f2 = -1
  · rw [if_pos h2] at h ⊢
    by_cases h3 : c.f1 = rows.length
    (· rw [if_pos h3] at h ⊢; exact .inl ⟨h2, (formed_neg hf (by omega)).2, rfl⟩); (· rw [if_neg h3] at h; exact absurd h (by simp))
  rw [if_neg h2] at h ⊢
  by_cases h3 : c.f2 = -2
  · rw [if_pos h3] at h ⊢
    by_cases h4 : rows.length = 0 ∨ c.f1 ≠ rows.length - 1
    (· rw [if_pos h4] at h; exact absurd h (by simp)); rw [if_neg h4] at h ⊢
    by_cases h5 : rd_L1 rows c.f1 = c.f5
    (· rw [if_pos h5] at h ⊢; exact .inr (.inl ⟨h3, by omega, by omega, rfl⟩)); (· rw [if_neg h5] at h; exact absurd h (by simp))
  rw [if_neg h3] at h ⊢
  by_cases h4 : c.f1 < 0 ∨ (rows.length : Int) ≤ c.f1 ∨ ((rd_L1 rows 0).length : Int) ≤ c.f2
  (· rw [if_pos h4] at h; exact absurd h (by simp)); rw [if_neg h4] at h ⊢
  by_cases h5 : rd (rd_L1 rows c.f1) c.f2 ≠ c.f3
  (· rw [if_pos h5] at h; exact absurd h (by simp)); rw [if_neg h5] at h ⊢
  have h2p : 0 ≤ c.f2 := by
    rcases Int.lt_or_le c.f2 0 with h | h
    (· have := (formed_neg hf h).1; omega); (· exact h)
  exact .inr (.inr ⟨h2p, by omega, by omega, by omega, rfl⟩)
def to61 (c : S76) : S61 := ⟨c.f0, c.f1, c.f2, c.f3, c.f4, c.f5⟩
theorem drawn_size {w w1 : World} (h : Drawn0 w w1) : w1.heap.size = w.heap.size := by
 obtain ⟨n, rfl⟩ := h.out
 simp
theorem shaped_Small {l : Wd} (h : shapedB l = true) : Small l := by
 obtain ⟨h1, h2, h3⟩ := shaped_small h; refine ⟨by omega, fun k rows hk => ⟨by have := (h3 k rows hk).1; omega, fun i r hi => ?_⟩⟩; have := (shaped_wide h k rows hk i r hi).2; omega
theorem WRep.reads {W : World} {base : Nat} {A : Option Addr} {n c : Nat} {l : Wd} (h : WRep W base (.slice A n c) l) : n = l.length ∧ n ≤ c ∧ Kd.C (Kd.slice 22 (Kd.slice 3 (Kd.int .i64))) W A l.length l := Kd.R_reads' h.R
set_option maxHeartbeats 4000000 in
set_option maxRecDepth 100000 in
theorem refApply_any (A0 : Option Addr) (c0 : Nat) (l0 : Wd) (A1 : Option Addr) (c1 : Nat) (l1 : List S76) (w : World) (hr0 : Kd.C (Kd.slice 22 (Kd.slice 3 (Kd.int .i64))) w A0 l0.length l0) (hc0 : l0.length ≤ c0)
  (hr1 : Kd.C k76 w A1 l1.length l1) (hc1 : l1.length ≤ c1) (hs0 : sumLen l0 < 4611686018427387904) (hn0 : l0.length ≤ 4611686018427387904) : Calls Try.prog 25 #[.slice A0 l0.length c0, .slice A1 l1.length c1] w (ApplyPost w (applyR l0 (l1.map to61))) := by
 have hu76 := Try.underlying76; have hlen0 := hr0.2.1; have hlen1 := hr1.2.1; obtain ⟨kS, hkS⟩ := Ev.at_ (shaped_ev l0 hn0 (by omega)); have H0 := A_ (dioramaref36_Shaped.calls kS A0 c0 l0 (shapedB l0) w hr0 hc0 hkS); have HR0 := A_ hr0; have HR1 := A_ hr1; clear hr0 hr1 hc0 hc1 hs0 hn0 hkS; generalize hb0 : shapedB l0 = b0 at H0; have HB0 := Lib.hid hb0; clear hb0
 go_enter Try.func25, Try.ntmps25
 cases b0 with
 | false =>
  go_wp2_with (go_at_call 40; refine H0.out.mono ?_; rintro e w1 ⟨rfl, hb⟩; have HB := A_ hb.below; clear hb)
  go_ret2; exact ⟨.slice none 0 0, by unfold applyR; rw [HB0.out]; rfl, by unfold applyR; rw [HB0.out]; exact Kd.R_nil _ _ _ _ _, HB.out⟩
 | true =>
  by_cases hll : 8192 < l1.length
  ·have hll2 : (8192 : Int) < (l1.length : Int) := by omega
   have hll3 := decide_eq_true hll2
   go_wp2_with (go_at_call 40; refine H0.out.mono ?_; rintro e w1 ⟨rfl, hb⟩; have HB := A_ hb.below; clear hb)
   go_ret2; exact ⟨.slice none 0 0, by unfold applyR; rw [HB0.out, if_neg (by simp), if_pos (by rw [List.length_map]; exact hll)]; rfl, by unfold applyR; rw [HB0.out, if_neg (by simp), if_pos (by rw [List.length_map]; exact hll)]; exact Kd.R_nil _ _ _ _ _, HB.out⟩
  ·have hll2 : ¬ (8192 : Int) < (l1.length : Int) := by omega
   have hll3 := decide_eq_false hll2; have HS6 := A_ (shaped_small HB0.out); have HSM := A_ (shaped_Small HB0.out); have hs6 := HS6.out.1
   go_wp2_with (first
    | (go_at_call 40; refine H0.out.mono ?_; rintro e w1 ⟨rfl, hb⟩; have HB1 := A_ hb.below; have HSZ := A_ (drawn_size hb); clear hb)
    | (go_at_call 35; refine (copy_any A0 c0 l0 w1 (Kd.C_below HR0.out HB1.out) HSM.out).mono ?_; rintro e w2 ⟨v2, rfl, hv, hb⟩; have HB2 := A_ (below_step HB1.out hb); have HV2 : Aside0 (WRep w2 w.heap.size v2 l0) := ⟨by have := hv; rw [HSZ.out] at this; exact this⟩; clear hv hb))
   clear H0
   obtain ⟨A, c, rfl⟩ : ∃ A c, v2 = .slice A l0.length c := by
    obtain ⟨_, _, h⟩ := HV2.out; obtain ⟨A, c, e, _⟩ := h.top; exact ⟨A, c, e⟩
   go_loopw [7] (fun u wr => ∃ (i : Nat) (lw : Wd), i ≤ l1.length ∧ u = .int .i64 i ∧ Aside0 (Below w.heap.size w wr) ∧ Aside0 (WRep wr w.heap.size (.slice A l0.length c) lw) ∧ Aside0 (stepsW l0 ((l1.take i).map to61) = (lw, 0))) (fun u _ => l1.length - (intOf u).toNat)
   case atStart => exact ⟨0, l0, Nat.zero_le _, rfl, HB2, HV2, ⟨rfl⟩⟩
   case round =>
    clear HB1 HB2 HV2 HSZ; obtain ⟨i, lw, hi, rfl, HB, HV, HST⟩ := hrel; have HGD := A_ (stepsW_good l0 ((l1.take i).map to61) HS6.out.2.2)
    by_cases hlti : i < l1.length
    ·obtain ⟨be, B2, d2, e2, hx0, hx1, hx2, hx3, hx4, hx5, hl2, hi2⟩ := at_T76 HR1.out i (by omega) (by omega)
     cases e2
     rw [Int.toNat_natCast] at hx0 hx1 hx2 hx3 hx4 hx5; replace hx0 := cell_below HB.out hx0; replace hx1 := cell_below HB.out hx1; replace hx2 := cell_below HB.out hx2; replace hx3 := cell_below HB.out hx3; replace hx4 := cell_below HB.out hx4; replace hx5 := cell_below HB.out hx5; have HRR := A_ hi2; have HRC := A_ hl2; have HCI : Aside0 ((l1.take (i + 1)).map to61 = (l1.take i).map to61 ++ [to61 (rd_T76 l1 (i : Int))]) := ⟨by rw [List.take_succ_eq_append_getElem hlti, List.map_append]; congr 2; simp [rd_T76, List.getD_eq_getElem?_getD, hlti]⟩; clear hi2 hl2; generalize rd_T76 l1 (i : Int) = ch at hx0 hx1 hx2 hx3 hx4 hx5 HRR HRC HCI; have HLWL : Aside0 (lw.length = l0.length) := ⟨by have := HGD.out.2; rw [HST.out] at this; exact this⟩
     have HSN : Aside0 (stepsW l0 ((l1.take (i + 1)).map to61) = stepE lw (to61 ch)) := ⟨by
      have := stepsW_snoc ((l1.take i).map to61) l0 (to61 ch) (by rw [HST.out]); rw [HST.out] at this
      rw [HCI.out]; exact this⟩
     have HGW : Aside0 (Good (512 + i) lw) := ⟨by have := HGD.out.1; rw [HST.out, List.length_map, List.length_take, Nat.min_eq_left (by omega)] at this; exact this⟩; obtain ⟨kF, hkF⟩ := Ev.at_ (fits_ev lw ch.f0 ch.f1 ch.f2 ch.f3 ch.f4 ch.f5 HGW.out (by omega))
     have HCT := A_ (fun (W : World) (hb : Below w.heap.size w W) (hv : WRep W w.heap.size (.slice A l0.length c) lw) => (by
      have h := hv.reads; have := dioramaref36_Fits.calls kF A c lw ch.f0 ch.f1 ch.f2 ch.f3 ch.f4 B2 d2 ch.f5 (stepW lw ch.f0 ch.f1 ch.f2 ch.f3 ch.f4 ch.f5).2 W h.2.2 (by omega) (Kd.C_below HRR.out hb) HRC.out hkF; rw [HLWL.out] at this
      exact this : Calls Try.prog 46 #[.slice A l0.length c, .agg #[.int .i64 ch.f0, .int .i64 ch.f1, .int .i64 ch.f2, .int .i64 ch.f3, .int .i64 ch.f4, .slice B2 ch.f5.length d2]] W fun e w' => e = .returned (.int .i64 (stepW lw ch.f0 ch.f1 ch.f2 ch.f3 ch.f4 ch.f5).2) ∧ Below W.heap.size W w'))
     clear hkF
     by_cases he : (stepS lw (to61 ch)).2 = 0
     ·have heb : (stepW lw ch.f0 ch.f1 ch.f2 ch.f3 ch.f4 ch.f5).2 = 0 := he
      rw [heb] at HCT; have HSE : Aside0 (stepsW l0 ((l1.take (i + 1)).map to61) = ((stepS lw (to61 ch)).1, 0)) := ⟨by rw [HSN.out]; unfold stepE; rw [if_pos he]⟩; obtain ⟨hk0, hk1, hcase⟩ := step_ok lw (to61 ch) he; have hk0 : 0 ≤ ch.f0 := hk0
      have hk1 : ch.f0 < (l0.length : Int) := by rw [← HLWL.out]; exact hk1
      have hk1' : ch.f0 < (lw.length : Int) := by rw [HLWL.out]; exact hk1
      obtain ⟨out, hout⟩ : ∃ out, out = (stepS lw (to61 ch)).1 := ⟨_, rfl⟩; rw [← hout] at HSE hcase; have hrows := rd_L2_at lw ch.f0 hk0 hk1'; have HRW := A_ hrows; have HCASE := A_ hcase; clear hrows he heb hout hcase HSN hk1'
      replace HCASE : Aside0 ((ch.f2 = -1 ∧ ch.f5.length ≤ 10 ∧ out = lw.set ch.f0.toNat (rd_L2 lw ch.f0 ++ [ch.f5])) ∨
       (ch.f2 = -2 ∧ 0 ≤ ch.f1 ∧ ch.f1 < (rd_L2 lw ch.f0).length ∧ out = lw.set ch.f0.toNat ((rd_L2 lw ch.f0).take ch.f1.toNat)) ∨
       (0 ≤ ch.f2 ∧ 0 ≤ ch.f1 ∧ ch.f1 < (rd_L2 lw ch.f0).length ∧ ch.f2 < (rd_L1 (rd_L2 lw ch.f0) 0).length ∧ out = lw.set ch.f0.toNat ((rd_L2 lw ch.f0).set ch.f1.toNat ((rd_L1 (rd_L2 lw ch.f0) ch.f1).set ch.f2.toNat ch.f4)))) := HCASE
      generalize rd_L2 lw ch.f0 = rows at HRW HCASE; have HWD := A_ (HGW.out _ _ HRW.out); obtain ⟨ad, c', hAe, _⟩ := HV.out.known HRW.out
      injection hAe with hAe hx1_ hx2_
      clear hx1_ hx2_; subst hAe; have HV' := A_ (show WRep wr w.heap.size (.slice (some ad) lw.length c) lw by rw [HLWL.out]; exact HV.out)
      have HOW0 : Aside0 (∀ (A2 : Option Addr) c2, wr.cell? (ad.add ch.f0.toNat) = some (.slice A2 rows.length c2) → ∀ b, (Value.slice A2 rows.length c2).ownBlock = some b → b < wr.heap.size) := ⟨fun A2 c2 hy => by
       obtain ⟨cs, h, _⟩ := HV'.out.grow HRW.out hy
       exact own_lt h⟩
      obtain ⟨A2, c2, hy0, hc2, hrl, hfy⟩ := HV'.out.seen HRW.out; have HOWG : Aside0 (∀ b, (Value.slice A2 rows.length c2).ownBlock = some b → b < wr.heap.size) := ⟨HOW0.out A2 c2 hy0⟩; have HY0 := A_ hy0; have HC2 := A_ hc2
      have hrl2 : rows.length ≤ 100000 := by have := HWD.out.1; omega
      clear hfy hc2 hrl hy0 HOW0
      go_upto_region 10 with (fail)
      go_upto_region 11 with (go_at_call 46; refine (HCT.out _ ?b1 ?b2).mono ?_; (case b1 => exact below_alloc HB.out _); (case b2 => exact HV.out.below (below_alloc (Below.refl _ _) _)); rintro e w4 ⟨rfl, hb4⟩; have hz0 : w4.cell? ⟨wr.heap.size, 0, none⟩ = some (.int .i64 ch.f0) := cell_below hb4 ((blk_cell (blk_new wr _) 0).trans rfl); have hz1 : w4.cell? ⟨wr.heap.size, 1, none⟩ = some (.int .i64 ch.f1) := cell_below hb4 ((blk_cell (blk_new wr _) 1).trans rfl); have hz2 : w4.cell? ⟨wr.heap.size, 2, none⟩ = some (.int .i64 ch.f2) := cell_below hb4 ((blk_cell (blk_new wr _) 2).trans rfl); have hz3 : w4.cell? ⟨wr.heap.size, 3, none⟩ = some (.int .i64 ch.f3) := cell_below hb4 ((blk_cell (blk_new wr _) 3).trans rfl); have hz4 : w4.cell? ⟨wr.heap.size, 4, none⟩ = some (.int .i64 ch.f4) := cell_below hb4 ((blk_cell (blk_new wr _) 4).trans rfl); have hz5 : w4.cell? ⟨wr.heap.size, 5, none⟩ = some (.slice B2 ch.f5.length d2) := cell_below hb4 ((blk_cell (blk_new wr _) 5).trans rfl); have B4 := A_ (below_step (below_alloc HB.out (.cells #[.int .i64 ch.f0, .int .i64 ch.f1, .int .i64 ch.f2, .int .i64 ch.f3, .int .i64 ch.f4, .slice B2 ch.f5.length d2] 76)) hb4); have V4 := A_ ((HV'.out.below (below_alloc (Below.refl _ _) (.cells #[.int .i64 ch.f0, .int .i64 ch.f1, .int .i64 ch.f2, .int .i64 ch.f3, .int .i64 ch.f4, .slice B2 ch.f5.length d2] 76))).below hb4); have GL := A_ (show wr.heap.size < w4.heap.size from by have := hb4.size; simp at this; omega); have hy : w4.cell? (ad.add ch.f0.toNat) = some (.slice A2 rows.length c2) := cell_below hb4 (cell_below (below_alloc (Below.refl _ _) _) HY0.out); clear hb4)
      clear HCT hx0 hx1 hx2 hx3 hx4 hx5 HY0; have HBL := A_ (V4.out.base_le HRW.out)
      have HFY := A_ (show w4.frozen? (ad.add ch.f0.toNat) = false from by
       obtain ⟨_, _, _, _, _, hfy⟩ := V4.out.seen HRW.out
       exact hfy)
      clear HB HV HV'; generalize wr.heap.size = gb at GL HOWG hz0 hz1 hz2 hz3 hz4 hz5 ⊢
      rcases HCASE.out with ⟨q2, q5, qo⟩ | ⟨q2, q1, q1b, qo⟩ | ⟨q2, q1, q1b, q3, qo⟩
      ·have he1 : (ch.f2 == -1) = true := beq_iff_eq.2 q2
       have HLN := A_ hrl2; have HQO := A_ qo; clear qo q2 HCASE; obtain ⟨cs, hcs, hgrow⟩ := WRep.grow (W := w4.drew) V4.out HRW.out hy; have HCS := A_ hcs; have HGR := A_ hgrow; have HFY5 : Aside0 (w4.drew.frozen? (ad.add ch.f0.toNat) = false) := HFY; have HLT := A_ (show (ad.add ch.f0.toNat).block < w4.drew.heap.size from World.block_lt_of_cell? _ _ hy); have B5 : Aside0 (Below w.heap.size w w4.drew) := ⟨below_drew B4.out⟩; have HOW : Aside0 (∀ b, (Value.slice A2 rows.length c2).ownBlock = some b → b < gb) := HOWG; have HGL : Aside0 (gb < w4.drew.heap.size) := GL; have HNT : Aside0 (some (ad.add ch.f0.toNat).block ≠ (Value.slice A2 rows.length c2).ownBlock) := ⟨V4.out.top_ne HRW.out hcs⟩; have HNG : Aside0 (some gb ≠ (Value.slice A2 rows.length c2).ownBlock) := ⟨fun e => Nat.lt_irrefl _ (HOW.out gb e.symm)⟩; clear hcs hgrow
       go_upto_region 14 with (fail)
       replace hy := dr_ hy; have Hhy := A_ hy; replace hz0 := dr_ hz0; have Hhz0 := A_ hz0; replace hz1 := dr_ hz1; have Hhz1 := A_ hz1; replace hz2 := dr_ hz2; have Hhz2 := A_ hz2; replace hz3 := dr_ hz3; have Hhz3 := A_ hz3; replace hz4 := dr_ hz4; have Hhz4 := A_ hz4; replace hz5 := dr_ hz5; have Hhz5 := A_ hz5; refine start_ (n := 16) (S := fun w' => w'.cell? (ad.add ch.f0.toNat) = some (.slice A2 rows.length c2) ∧ w'.cell? ⟨gb, 0, none⟩ = some (.int .i64 ch.f0) ∧ w'.cell? ⟨gb, 1, none⟩ = some (.int .i64 ch.f1) ∧ w'.cell? ⟨gb, 2, none⟩ = some (.int .i64 ch.f2) ∧ w'.cell? ⟨gb, 3, none⟩ = some (.int .i64 ch.f3) ∧ w'.cell? ⟨gb, 4, none⟩ = some (.int .i64 ch.f4) ∧ w'.cell? ⟨gb, 5, none⟩ = some (.slice B2 ch.f5.length d2)) (ds := [15]) (B_ 16 0) (by kernel_rfl) rfl rfl ⟨hy, hz0, hz1, hz2, hz3, hz4, hz5⟩ (fun hHeld => ?_); generalize w4.drew = w5 at B5 HCS HGR HFY5 HLT HOW HGL hHeld hy hz0 hz1 hz2 hz3 hz4 hz5 Hhy Hhz0 Hhz1 Hhz2 Hhz3 Hhz4 Hhz5 ⊢; refine p_ 0 39 (B_ 16 1) ?_; refine p_ 1 40 (B_ 16 3) ?_; refine p_ 3 42 (B_ 16 11) ?_; refine p_ 4 43 (B_ 16 27) ?_; refine p_ 9 48 (B_ 16 539) ?_; refine t_ 2 41 (B_ 16 543) hHeld ?_; refine t_ 5 44 (B_ 16 575) hHeld ?_; refine p_ 6 45 (B_ 16 639) ?_; refine t_ 7 46 (B_ 16 767) hHeld ?_; refine t_ 10 49 (B_ 16 1791) hHeld ?_; refine one_ (i := 8) (N := some 47) (B_ 16 2047) rfl rfl (by kernel_rfl) (by decide) (fun K hK => ?_); refine Kd.R_lit_step (Kd.int .i64) (w0 := w5) w5.heap.size 3 (by rfl) (N := 47) rfl (xs := ([] : List Int)) (inner := []) (ok := fun _ => True) (okp := fun _ => True) ?hr ?hp (fun _ hk => hk) trivial (Below.refl _ _) (Nat.le_refl _) (by simp) ?_; (case hr => first | (go_simp; done) | (go_simp; rfl)); (case hp => exact (Reps.none _ _)); intro v6 w6 ho6 hb6 hg6 hn6; have HO6 := A_ ho6; have HB6 := A_ hb6; replace hy := cell_below hb6 hy; replace hz0 := cell_below hb6 hz0; replace hz1 := cell_below hb6 hz1; replace hz2 := cell_below hb6 hz2; replace hz3 := cell_below hb6 hz3; replace hz4 := cell_below hb6 hz4; replace hz5 := cell_below hb6 hz5; clear ho6 hb6 hg6 hn6; refine hK.out _ _ ⟨hy, hz0, hz1, hz2, hz3, hz4, hz5⟩ (fun hHeld => ?_); clear hK K; refine norm_ (a' := ?_) ?_ ?_; rotate_left
       ·show Act.put _ (some 47) _ = _
        simp only [Act.put, sA_, sB_, sC_, i64_w, i32_w]; rfl
       refine one_ (i := 11) (N := some 50) (B_ 16 4095) rfl rfl (by kernel_rfl) (by decide) (fun K hK => ?_); refine Kd.R_append_rows_step (Kd.int .i64) (w0 := w5) w5.heap.size (by rfl) (.tmp 47) (.tmp 49) 22 3 (.int .i64 0) 8 rfl Try.underlying22 info3 rfl (by decide) (by decide) v6 [] ch.f5 B2 ch.f5.length d2 (fun _ => True) (fun _ => False) rfl rfl HO6.out (Kd.C_below HRR.out (below_step B5.out HB6.out)) (fun _ _ h => h) (fun _ h => h.elim) (fun _ _ => trivial) HB6.out HB6.out.size (by simp; omega) ?_; intro v7 w7 ho7 hb7 hg7 hn7; obtain ⟨A9, c9, rfl⟩ := Kd.R_slice ho7; have HO7 := A_ ho7; have HB7 := A_ hb7; have HW7 := A_ (below_step B5.out hb7); replace hy := cell_below HB7.out Hhy.out; replace hz0 := cell_below HB7.out Hhz0.out; replace hz1 := cell_below HB7.out Hhz1.out; replace hz2 := cell_below HB7.out Hhz2.out; replace hz3 := cell_below HB7.out Hhz3.out; replace hz4 := cell_below HB7.out Hhz4.out; replace hz5 := cell_below HB7.out Hhz5.out; clear ho7 hb7 hg7 hn7; refine hK.out _ _ ⟨hy, hz0, hz1, hz2, hz3, hz4, hz5⟩ (fun hHeld => ?_); clear hK K; refine norm_ (a' := ?_) ?_ ?_; rotate_left
       ·show Act.put _ (some 50) _ = _
        simp only [Act.put, sA_, sB_, sC_, i64_w, i32_w]; rfl
       refine one_ (i := 12) (N := some 51) (B_ 16 8191) rfl rfl (by kernel_rfl) (by decide) (fun K hK => ?_); refine value_ (w1 := ?_) (v := ?_) (by rfl) rfl ?_ ?_; rotate_left 2
       ·go_simp
        constructor; (· rfl); (· rfl)
       refine hK.out _ _ ⟨cell_below (below_alloc (Below.refl _ _) _) hy, cell_below (below_alloc (Below.refl _ _) _) hz0, cell_below (below_alloc (Below.refl _ _) _) hz1, cell_below (below_alloc (Below.refl _ _) _) hz2, cell_below (below_alloc (Below.refl _ _) _) hz3, cell_below (below_alloc (Below.refl _ _) _) hz4, cell_below (below_alloc (Below.refl _ _) _) hz5⟩ (fun hHeld => ?_); clear hK K; refine norm_ (a' := ?_) ?_ ?_; rotate_left
       ·show Act.put _ (some 51) _ = _
        simp only [Act.put, sA_, sB_, sC_, i64_w, i32_w]; rfl
       refine one_ (i := 13) (N := some 52) (B_ 16 16383) rfl rfl (by kernel_rfl) (by decide) (fun K hK => ?_); refine step_append_cells (w0 := w) w.heap.size (by rfl) (.tmp 46) (.tmp 51) 64 22 (.slice none 0 0) 1 24 rfl Try.underlying64 info22 rfl (by decide) (by decide) (.slice A2 rows.length c2) rows.length cs [.slice A9 _ c9] rfl rfl rfl (by intro u hu; simp only [List.mem_singleton] at hu; subst hu; rfl) (own_move HCS.out (fun b hb => HB7.out.block b (own_lt HCS.out b hb))) HW7.out HW7.out.size (by have := HLN.out; omega) ?_; intro v8 w8 hown8 hb8 hg8 hat8; obtain ⟨A8, c8, rfl⟩ := own_slice hown8; have HO8 := A_ hown8; have HB8 := A_ hb8; have HG8 := A_ hg8; have HA8 := A_ hat8; clear hown8 hb8 hat8; have hcz : ∃ v, w8.cell? (ad.add ch.f0.toNat) = some v := ⟨_, hg8.cell hy HNT.out⟩; obtain ⟨vz, hcz⟩ := hcz; have hfz : w8.frozen? (ad.add ch.f0.toNat) = false := (World.frozen?_of_block (hg8.block _ (World.block_lt_of_cell? _ _ hy) HNT.out)).trans ((World.frozen?_of_block (HB7.out.block _ HLT.out)).trans HFY5.out); refine hK.out _ _ ⟨hg8.cell hy HNT.out, hg8.cell hz0 HNG.out, hg8.cell hz1 HNG.out, hg8.cell hz2 HNG.out, hg8.cell hz3 HNG.out, hg8.cell hz4 HNG.out, hg8.cell hz5 HNG.out⟩ (fun hHeld => ?_); clear hK K; refine norm_ (a' := ?_) ?_ ?_; rotate_left
       ·show Act.put _ (some 52) _ = _
        simp only [Act.put, sA_, sB_, sC_, i64_w, i32_w]; rfl
       refine p_ 14 53 (B_ 16 32767) ?_; refine last_ (i := 15) (N := none) (B_ 16 65535) rfl rfl (by kernel_rfl) (by decide) (fun K hK => ?_); refine skip_ (w1 := ?_) (by rfl) rfl ?_ ?_; rotate_left; (· go_simp; rfl); refine hK.out _ _ ?_; clear hK K; refine done_ (by kernel_rfl) ?_; go_wp2; have HW9 := HGR.out _ _ _ _ _ _ HB7.out HO7.out HG8.out HA8.out HO8.out
       go_roundw
       case rel => exact ⟨i + 1, out, by omega, by go_num, ⟨Below.setCell HB8.out HBL.out _⟩, ⟨by rw [HQO.out]; have := HW9; rw [HLWL.out] at this; exact this⟩, HSE⟩
       case measure => simp [intOf]; omega
      ·have he1 : (ch.f2 == -1) = false := beq_eq_false_iff_ne.2 (by omega)
       have he2 : (ch.f2 == -2) = true := beq_iff_eq.2 q2; have HQO := A_ qo; have hfz := HFY.out; have hc2 := HC2.out; have HSH := A_ (V4.out.shrink HRW.out hy (show ch.f1.toNat ≤ rows.length by omega)); clear qo q2 HCASE
       go_upto_region 16 with (fail)
       go_region
       go_wp2
       go_roundw
       case rel => exact ⟨i + 1, out, by omega, by go_num, ⟨Below.setCell (below_drew B4.out) HBL.out _⟩, ⟨by rw [HQO.out]; have := HSH.out; rw [HLWL.out] at this; exact this⟩, HSE⟩
       case measure => simp [intOf]; omega
      ·have he1 : (ch.f2 == -1) = false := beq_eq_false_iff_ne.2 (by omega)
       have he2 : (ch.f2 == -2) = false := beq_eq_false_iff_ne.2 (by omega); have HQO := A_ qo; obtain ⟨r1, hr1⟩ : ∃ r1, rows[ch.f1.toNat]? = some r1 := ⟨_, List.getElem?_eq_getElem (l := rows) (i := ch.f1.toNat) (by omega)⟩; have hl1 : r1.length = (rd_L1 rows 0).length := HWD.out.2 _ _ hr1
       have hrd1 : rd_L1 rows ch.f1 = r1 := by simp [rd_L1, List.getD_eq_getElem?_getD, hr1]
       obtain ⟨ad2, A4, c4, e4, hq4, hc4, _, hst⟩ := V4.out.record HRW.out hy hr1; subst e4; obtain ⟨ad4, rfl, hq5, hf5, hb5, hst⟩ := hst ch.f2.toNat (by omega)
       have q3b : ch.f2 < (r1.length : Int) := by omega
       have HC4 := A_ hc4; have HF5 := A_ hf5; have HB5 := A_ hb5; have HST5 := A_ hst; have HRD1 := A_ hrd1; have hfz := HF5.out; clear qo HCASE hf5 hb5 hst hc4 hl1 hrd1 q3 hr1
       go_upto_region 17 with (fail)
       go_region
       go_wp2
       go_roundw
       case rel => exact ⟨i + 1, out, by omega, by go_num, ⟨Below.setCell (below_drew B4.out) (by rw [add_block]; exact HB5.out) _⟩, ⟨by rw [HQO.out, HRD1.out]; have := HST5.out ch.f4; rw [HLWL.out] at this; exact this⟩, HSE⟩
       case measure => simp [intOf]; omega
     ·have heb : (stepW lw ch.f0 ch.f1 ch.f2 ch.f3 ch.f4 ch.f5).2 ≠ 0 := he
      obtain ⟨er, her⟩ : ∃ er, er = (stepW lw ch.f0 ch.f1 ch.f2 ch.f3 ch.f4 ch.f5).2 := ⟨_, rfl⟩; rw [← her] at HCT heb; have hnb : (er != 0) = true := bne_iff_ne.2 heb
      have HAP : Aside0 (applyR l0 (l1.map to61) = ([], er)) := ⟨by
       have h1 : (stepsW l0 ((l1.take (i + 1)).map to61)).2 = er := by rw [HSN.out]; unfold stepE; rw [if_neg he]; exact her.symm
       have h2 : (stepsW l0 (l1.map to61)).2 = er := by
        have := stepsW_stop ((l1.take (i + 1)).map to61) ((l1.drop (i + 1)).map to61) l0 (by rw [h1]; exact heb); rw [← List.map_append, List.take_append_drop] at this; rw [this, h1]
       unfold applyR
       rw [HB0.out, if_neg (by simp), if_neg (by rw [List.length_map]; exact hll), if_pos (by rw [h2]; exact heb), h2]⟩
      clear he heb her
      go_wp2_with (go_at_call 46; refine (HCT.out _ ?b1 ?b2).mono ?_; (case b1 => exact below_alloc HB.out _); (case b2 => exact HV.out.below (below_alloc (Below.refl _ _) _)); rintro e w9 ⟨rfl, hb9⟩; have HB9 := A_ (below_step (below_alloc HB.out _) hb9); clear hb9)
      go_ret2; exact ⟨.slice none 0 0, by rw [HAP.out]; rfl, by rw [HAP.out]; exact Kd.R_nil _ _ _ _ _, HB9.out⟩
    ·have hie : i = l1.length := by omega
     subst hie; rw [List.take_length] at HST HGD; have hsum := HGD.out.1.sum; rw [HGD.out.2, HST.out, List.length_map] at hsum; have hbig : sumLen lw ≤ 6 * (512 + 8192) := Nat.le_trans hsum (Nat.mul_le_mul (by omega) (by omega))
     have hlw : lw.length = l0.length := by have := HGD.out.2; rw [HST.out] at this; exact this
     have HLW := A_ hlw; clear hsum hlw; go_wp2
     go_loopw [11, 10] (fun u v wr' => ∃ k : Nat, k ≤ l0.length ∧ u = .int .i64 k ∧ v = .int .i64 (sumLen (lw.take k) : Nat) ∧ Aside0 (wr' = wr)) (fun u _ _ => l0.length - (intOf u).toNat)
     case atStart => exact ⟨0, Nat.zero_le _, rfl, rfl, ⟨rfl⟩⟩
     case round =>
      obtain ⟨k, hk, rfl, rfl, HWR⟩ := hrel; obtain ⟨HWR⟩ := HWR; subst HWR
      by_cases hltk' : k < l0.length
      ·have hltk : k < lw.length := by have := HLW.out; omega
       have hkr : lw[k]? = some lw[k] := List.getElem?_eq_getElem hltk; obtain ⟨ad, c', hAe, _⟩ := HV.out.known hkr
       injection hAe with hAe _ _
       subst hAe; obtain ⟨A2, c2, hy, _, hrw, _⟩ := WRep.seen (show WRep wr w.heap.size (.slice (some ad) lw.length c) lw by rw [HLW.out]; exact HV.out) hkr; have hsn := sumLen_snoc lw k hltk; have hst := sumLen_take lw (k + 1)
       have hb1 : ((sumLen (lw.take k) : Nat) : Int) + (lw[k].length : Int) < 4611686018427387904 := by omega
       have HSN := A_ hsn; clear hsn hst hkr; go_wp2
       go_roundw
       case rel => exact ⟨k + 1, by omega, by go_num, by rw [HSN.out]; rfl, by first | exact ⟨rfl⟩ | exact ⟨trivial⟩⟩
       case measure => simp [intOf]; omega
      ·have hke : k = l0.length := by omega
       subst hke
       have htk : lw.take l0.length = lw := by rw [← HLW.out]; exact List.take_length
       rw [htk]; clear htk
       have HAP : Aside0 (applyR l0 (l1.map to61) = if 512 < (sumLen lw : Int) then ([], 4) else (lw, 0)) := ⟨by
        unfold applyR; rw [HB0.out, if_neg (by simp), if_neg (by rw [List.length_map]; exact hll), HST.out, if_neg (by simp)]
        rfl⟩
       by_cases hbg : (512 : Int) < (sumLen lw : Int)
       (· have hbb := decide_eq_true hbg; rw [if_pos hbg] at HAP; go_wp2; go_ret2; exact ⟨.slice none 0 0, by rw [HAP.out]; rfl, by rw [HAP.out]; exact Kd.R_nil _ _ _ _ _, HB.out⟩); (· have hbb := decide_eq_false hbg; rw [if_neg hbg] at HAP; go_wp2; go_ret2; exact ⟨.slice A l0.length c, by rw [HAP.out]; rfl, by rw [HAP.out]; exact HV.out.R, HB.out⟩)
def dioramaref36_Apply.f (l0 : Wd) (l1 : List S76) : Option (Wd × Int) := if sumLen l0 < 4611686018427387904 ∧ l0.length ≤ 4611686018427387904 then some (applyR l0 (l1.map to61)) else none
theorem dioramaref36_Apply.calls (A0 : Option Addr) (c0 : Nat) (l0 : List (List (List Int))) (A1 : Option Addr) (c1 : Nat) (l1 : List S76) (r1 : List (List (List Int))) (r2 : Int) (w : World) (hr0 : Kd.C (Kd.slice 22 (Kd.slice 3 (Kd.int .i64))) w A0 l0.length l0) (hc0 : l0.length ≤ c0)
  (hr1 : Kd.C k76 w A1 l1.length l1) (hc1 : l1.length ≤ c1) (h : dioramaref36_Apply.f l0 l1 = some (r1, r2)) : Calls Try.prog 25 #[.slice A0 l0.length c0, .slice A1 l1.length c1] w fun e w' => ∃ v0_ : Value, e = .returned (.tuple #[v0_, .int .i64 r2]) ∧ Kd.R (Kd.slice 22 (Kd.slice 3 (Kd.int .i64))) 64 w' w.heap.size (fun _ => True) v0_ r1 ∧ Below w.heap.size w w' := by
 unfold dioramaref36_Apply.f at h
 split at h
 ·next hs =>
  have e := Option.some.inj h; have := refApply_any A0 c0 l0 A1 c1 l1 w hr0 hc0 hr1 hc1 hs.1 hs.2; rw [e] at this; exact this
 ·cases h
end Go.Proofs.Ytcgpemefmakjiaa.PX
namespace Go.Proofs.Ytcgpemefmakjiaa.Iter
open Go.RowKit
def IteratesI {α : Type} (F : Fence) (n : Nat) (P : Program) (gf : Nat) (lb : Array Value) (enc : α → Array Value) (T : α → World → Prop) (S : List α → World → Prop) (N : Nat) (B : Nat) (ts tI : List Nat) (H : World → Prop) (l : Nat) (W1 : World) : Prop :=
 ∀ J : List α → World → Prop, (∀ s A, J s A → H A) → (∀ s A C, J s A → StepC W1.heap.size tI A C → J s C) →
  (∀ pre x W, J pre W → pre.length < N → T x W → YieldAt F (n - 1) P l (enc x) W fun e W' => e = .returned (.bool true) ∧ J (pre ++ [x]) W' ∧ KeepIter B ts W W') →
  J [] W1 → CallsIn F n P gf (#[.func (.yield l) #[] #[]] ++ lb) W1 fun e W' => (∃ v, e = .returned v) ∧ ∃ xs, S xs W' ∧ J xs W'
variable {F : Fence} {n : Nat} {P : Program}
theorem wpIn_range_onI {α : Type} {g : Operand} {ps : Array Tmp} {assign body : Code} {Q : Exit → Act → World → Prop} {a : Act} {w : World}
  (hro : F.round = none) (h1 : 1 ≤ n) {gf : Nat} {lb : Array Value} (hg : a.eval g = .func (.func gf) #[] lb) (hFg : F.fn gf) (eg : ∀ args w, (callFunc gf args).run P w = .ok (.enter gf args) w)
  {enc : α → Array Value} {T : α → World → Prop} {S : List α → World → Prop} {N : Nat} {B : Nat} {ts tI : List Nat} {H : World → Prop} (hB : B ≤ w.heap.size)
  (hiter : ∀ L, IteratesI F (n - 1) P gf lb enc T S N B ts tI H (w.heap.size + 1) ((w.alloc (.deferred (some []))).alloc (.loop L)))
  (hps : ∀ x, (enc x).size = ps.size)
  (I : List α → World → Prop) (Ax : α → Act → World → Prop) (hIH : ∀ s A, I s A → H A)
  (hI : ∀ s A C, I s A → StepI w.heap.size tI A C → I s C) (hT : ∀ x A C, T x A → StepI w.heap.size tI A C → T x C) (hS : ∀ s A C, S s A → StepI w.heap.size tI A C → S s C) (hAx : ∀ x a A C, Ax x a A → StepI w.heap.size tI A C → Ax x a C)
  (h0 : I [] w)
  (hassign : ∀ (l : Nat) (pre : List α) (x : α) (W : World) (K : Act → World → Prop), I pre W → T x W → (∀ a1 W1, KeepBody B ts W W1 → I pre W1 → T x W1 → Ax x a1 W1 → K a1 W1) →
   assign.wpIn (F.inRound l) (n - 1 - 1) P (Exit.then K (fun _ _ _ => False)) { tmps := (ps.zip (enc x)).foldl (fun t (p, v) => t.setIfInBounds p v) a.tmps, defers := [] } W)
  (hbody : ∀ (l : Nat) (pre : List α) (x : α) (a1 : Act) (W : World), I pre W → pre.length < N → T x W → Ax x a1 W → body.wpIn (F.inRound l) (n - 1 - 1) P (onPost B ts W (I (pre ++ [x]))) a1 W)
  (hdone : ∀ (D : Nat) (xs : List α) (W : World), w.heap.size ≤ D → S xs W → I xs W → W.heap[D]? = some (.deferred (some [])) → Q .normal { a with defers := { target := .collected D, args := #[] } :: a.defers } W) :
  (Code.rangeFunc g ps assign body).wpIn F n P Q a w := by
 refine wpIn_rangeFunc ?_; intro fn hfn; rw [hro]
 obtain ⟨rec, hrec⟩ : ∃ rec : LoopState → Option Code → Loop, rec = fun st pe => { state := st, pending := pe, fn, tmps := a.tmps, params := ps, assign, body, defers := w.heap.size } := ⟨_, rfl⟩
 have hit := hiter (rec .ready none); obtain ⟨W1, hW1⟩ : ∃ W1, (w.alloc (.deferred (some []))).alloc (.loop (rec .ready none)) = W1 := ⟨_, rfl⟩; rw [hW1] at hit
 have hsz : W1.heap.size = w.heap.size + 2 := by rw [← hW1]; simp
 have hL1 : W1.heap[w.heap.size + 1]? = some (.loop (rec .ready none)) := by
  rw [← hW1]; have := World.alloc_heap_new (w.alloc (.deferred (some []))) (.loop (rec .ready none)); rwa [World.size_alloc] at this
 have hK1 : W1.heap[w.heap.size]? = some (.deferred (some [])) := by
  rw [← hW1]; exact (Below.heap_alloc _ _ _ (by simp)).trans (World.alloc_heap_new w _)
 have hI1 : I [] W1 := by rw [← hW1]; exact hI _ _ _ (hI _ _ _ h0 (StepI.alloc _ _ _ _)) (StepI.alloc _ _ _ _)
 refine ⟨w.heap.size + 1, [{ target := .collected w.heap.size, args := #[] }], W1, { target := .fn (.func gf) lb, args := #[.func (.yield (w.heap.size + 1)) #[] #[]] }, W1, gf,
  #[.func (.yield (w.heap.size + 1)) #[] #[]] ++ lb, W1, ?_, ?_, ?_, ?_, fun _ => h1, ?_⟩
 (· rw [← hW1, hrec]; exact run_enterLoop_outer _ _ _ _ _)
 ·simp only [resolve, hg]
  simp [go_sem]
 (· intro f' hf'; simp [Target.leads] at hf'; subst hf'; exact hFg)
 ·simp [invoke, go_sem, eg]
 ·refine (hit (fun pre W => I pre W ∧ W.heap[w.heap.size + 1]? = some (.loop (rec .ready none)) ∧ W.heap[w.heap.size]? = some (.deferred (some []))) (fun s A hs => hIH s A hs.1)
   (fun s A C hs hst => ⟨hI s A C hs.1 (hst.i (by omega)), hst.nocells hs.2.1 rfl, hst.nocells hs.2.2 rfl⟩) ?_ ⟨hI1, hL1, hK1⟩).mono ?_
  ·rintro pre x W ⟨hi, hl, hk⟩ hlen ht
   have hlt : w.heap.size + 1 < W.heap.size := (Array.getElem?_eq_some_iff.1 hl).1; have hy := run_yield (P := P) (args := enc x) hl (by rw [hrec]; exact hps x); rw [hrec] at hy; refine ⟨fn, _, assign, body, hy, roundIn_of_wpIn hfn (hassign _ pre x W _ hi ht (fun a1 W2 hkb hi2 ht2 hax => ?_))⟩; have hl2 : W2.heap[w.heap.size + 1]? = some (.loop (rec .ready none)) := hkb.same _ _ hl (.inr (.inl rfl)); have hk2 : W2.heap[w.heap.size]? = some (.deferred (some [])) := hkb.same _ _ hk (.inr (.inl rfl)); have hlt2 : w.heap.size + 1 < W2.heap.size := (Array.getElem?_eq_some_iff.1 hl2).1; refine ⟨_, run_beginRound hl2 (by rw [hrec]), ?_⟩; obtain ⟨W3, hW3⟩ : ∃ W3, W2.putObj (w.heap.size + 1) (.loop { rec .ready none with state := .busy }) = W3 := ⟨_, rfl⟩
   have hst : StepI w.heap.size tI W2 W3 := by rw [← hW3]; exact StepI.putObj _ (by omega) hl2 rfl
   have hl3 : W3.heap[w.heap.size + 1]? = some (.loop { rec .ready none with state := .busy }) := by rw [← hW3]; exact World.putObj_heap_same hlt2
   have hk3 : W3.heap[w.heap.size]? = some (.deferred (some [])) := by rw [← hW3]; exact (World.putObj_heap_other (by omega)).trans hk2
   have hw3 : KeepIter B ts W2 W3 := by rw [← hW3]; exact KeepIter.putObj _ (by omega) hl2 rfl
   rw [hW3]; refine wpIn_mono (hbody _ pre x a1 W3 (hI _ _ _ hi2 hst) hlen (hT _ _ _ ht2 hst) (hAx _ _ _ _ hax hst)) ?_; rintro e a3 W4 hp
   cases e with
   | normal =>
    obtain ⟨hkb4, hi4⟩ := hp; have hl4 := hkb4.same _ _ hl3 (.inr (.inl rfl)); have hk4 := hkb4.same _ _ hk3 (.inr (.inl rfl)); have hr := run_endRound (P := P) none hl4; refine ⟨_, _, hr, rfl, ⟨hI _ _ _ hi4 (StepI.putObj _ (by omega) hl4 rfl), ?_, (World.putObj_heap_other (by omega)).trans hk4⟩, ((hkb.iter.trans hw3).trans hkb4.iter).trans (KeepIter.putObj _ (by omega) hl4 rfl)⟩; rw [hrec]; exact World.putObj_heap_same (Array.getElem?_eq_some_iff.1 hl4).1
   | ret => exact hp.elim
   | exit id => exact hp.elim
   | goto t => exact hp.elim
   | panic ch => exact hp.elim
   | outgrown => exact hp.elim
  ·rintro e W2 ⟨⟨v, rfl⟩, xs, hs, hi, hl, hk⟩
   have hst : ∀ o', StepI w.heap.size tI W2 (W2.putObj (w.heap.size + 1) o') := fun o' => StepI.putObj _ (by omega) hl rfl
   exact ⟨none, _, by have := run_endLoop (P := P) hl (by rw [hrec]; simp); rw [hrec] at this; exact this, hdone _ xs _ (Nat.le_refl _) (hS _ _ _ hs (hst _)) (hI _ _ _ hi (hst _)) ((World.putObj_heap_other (by omega)).trans hk)⟩
end Go.Proofs.Ytcgpemefmakjiaa.Iter
namespace Go.Proofs.Ytcgpemefmakjiaa.PX
open Go.RowKit Go.Shelf Go.Proofs.Ytcgpemefmakjiaa.Iter Go.Proofs.YtcgpemefmakjiaaW.PrintWords Go.Proofs.YtcgpemefmakjiaaW.PrintLast Go.Proofs.YtcgpemefmakjiaaW.PrintMore
attribute [local go_sem] Oper.semAt_some
abbrev Bk := Nat × S61 × Value
def Bk.cells (x : Bk) : Array Value := #[.int .i64 x.2.1.f0, .int .i64 x.2.1.f1, .int .i64 x.2.1.f2, .int .i64 x.2.1.f3, .int .i64 x.2.1.f4, x.2.2]
def Bk.enc (x : Bk) : Array Value := #[.int .i64 x.1, .agg x.cells]
def Bk.T (w0 : World) (xs : List S61) (x : Bk) (_ : World) : Prop := x.2.1 ∈ xs ∧ ∃ A c, x.2.2 = .slice A x.2.1.f5.length c ∧ x.2.1.f5.length ≤ c ∧ Kd.C (Kd.int .i64) w0 A x.2.1.f5.length x.2.1.f5
set_option maxHeartbeats 400000 in
theorem backward_any (A : Option Addr) (n c : Nat) (w : World) :
  Calls Try.prog 45 #[.slice A n c] w fun e w' => e = .returned (.func (.func 68) #[] #[.pointer (some ⟨w.heap.size, 0, none⟩)]) ∧ w' = w.alloc (.cells #[.slice A n c] 30) := by
 go_enter Try.func45, Try.ntmps45
 go_wp2; go_ret; exact ⟨rfl, rfl⟩
theorem rd_T61_nat' (xs : List S61) (i : Nat) (h : i < xs.length) : rd_T61 xs i = xs[i] := by simp [rd_T61, List.getD_eq_getElem?_getD, h]
set_option maxHeartbeats 2000000 in
set_option maxRecDepth 100000 in
theorem backward1_iterates (n N B : Nat) (ts : List Nat) (w0 W1 : World) (l : Nat) (A : Option Addr) (c : Nat) (xs : List S61) (bl : Nat) (hr : Kd.C k61 w0 A xs.length xs) (hN : xs.length ≤ N) (hlen : xs.length ≤ 1000000) :
  IteratesI Fence.wide n Try.prog 68 #[.pointer (some ⟨bl, 0, none⟩)] Bk.enc (Bk.T w0 xs) (fun ys _ => ys.map (·.2.1) = xs.reverse) N B ts [] (fun W => Below w0.heap.size w0 W ∧ W.heap[bl]? = some (.cells #[.slice A xs.length c] 30 (0, 0))) l W1 := by
 intro J hJH hJ hY h0; have HR := A_ hr; have HJH := A_ hJH; have HY := A_ hY; have HJ0 := A_ h0; have hcb := cell_of_row _ _ 0 _ 30 (0, 0) (hJH _ _ h0).2; clear hr hJH hJ hY h0; refine callsIn_of_wp Try.func68 rfl trivial ?_ rfl; simp only [Try.ntmps68, List.size_toArray, List.length_cons, List.length_nil, Nat.reduceAdd, Nat.reduceSub, Array.replicate_succ, Array.replicate_zero, List.push_toArray, List.append_toArray, List.nil_append, List.cons_append]
 gi_wp2
 gi_loopw [3] (fun v wr => ∃ (p : Nat) (pre : List Bk), p ≤ xs.length ∧ v = .int .i64 ((p : Int) - 1) ∧ Aside0 (pre.map (·.2.1) = (xs.drop p).reverse) ∧ Aside0 (J pre wr)) (fun v _ => (intOf v + 1).toNat)
 case atStart => exact ⟨xs.length, [], Nat.le_refl _, rfl, ⟨by simp⟩, HJ0⟩
 case round =>
  obtain ⟨p, pre, hp, rfl, HP, HJi⟩ := hrel; clear HJ0 hcb; have hcb := cell_of_row _ _ 0 _ 30 (0, 0) (HJH.out _ _ HJi.out).2
  by_cases hp0 : 0 < p
  ·obtain ⟨q, rfl⟩ : ∃ q, p = q + 1 := ⟨p - 1, by omega⟩
   have hcast : (((q + 1 : Nat) : Int) - 1) = (q : Int) := by omega
   rw [hcast]; clear hcast; obtain ⟨ad, A5, c5, e, hx0, hx1, hx2, hx3, hx4, hx5, hl5, hi5⟩ := at_T61 HR.out q (by omega) (by omega)
   cases e
   rw [Int.toNat_natCast] at hx0 hx1 hx2 hx3 hx4 hx5; have hB := (HJH.out _ _ HJi.out).1
   have cb : ∀ {a : Addr} {v : Value}, w0.cell? a = some v → wr.cell? a = some v := fun h => (hB.cell (World.block_lt_of_cell? w0 _ h)).trans h
   replace hx0 := cb hx0; replace hx1 := cb hx1; replace hx2 := cb hx2; replace hx3 := cb hx3; replace hx4 := cb hx4; replace hx5 := cb hx5; have e1 := rd_T61_nat' xs q (by omega); have HSN := A_ (show (xs.drop q).reverse = (xs.drop (q + 1)).reverse ++ [rd_T61 xs q] by rw [List.drop_eq_getElem_cons (show q < xs.length by omega), List.reverse_cons, e1])
   have HLEN := A_ (show pre.length < N by
    have e := congrArg List.length HP.out; rw [List.length_map, List.length_reverse, List.length_drop] at e
    omega)
   have HT := A_ (show Bk.T w0 xs (q, rd_T61 xs q, .slice A5 (rd_T61 xs q).f5.length c5) wr from ⟨by rw [e1]; exact List.getElem_mem _, A5, c5, rfl, hl5, hi5⟩); clear cb hB e1 hl5 hi5; generalize rd_T61 xs (q : Int) = ch at hx0 hx1 hx2 hx3 hx4 hx5 HSN HT; have HYY := A_ (HY.out pre (q, ch, .slice A5 ch.f5.length c5) wr HJi.out HLEN.out HT.out); obtain ⟨fn, tmps, assign, body, hy, hRR⟩ := yield_any (m' := n - 1) rfl HYY.out; clear HYY; simp only [Bk.enc, Bk.cells] at hy
   gi_wp2
   refine ⟨(fun h => by cases h), hRR.mono ?_⟩; rintro e W3 ⟨rfl, hj2, hk⟩; have HJ2 := A_ hj2; clear hj2 hk HJi hcb hRR hy hx0 hx1 hx2 hx3 hx4 hx5
   gi_wp2
   go_roundw
   case rel => exact ⟨q, pre ++ [_], by omega, by go_num, ⟨by rw [List.map_append, HP.out, HSN.out]; rfl⟩, HJ2⟩
   case measure => simp [intOf] <;> omega
  ·have e : p = 0 := by omega
   subst e
   gi_wp2
   go_end0
   exact ⟨⟨_, rfl⟩, pre, by rw [HP.out, List.drop_zero], HJi.out⟩
end Go.Proofs.Ytcgpemefmakjiaa.PX
namespace Go.Proofs.Ytcgpemefmakjiaa.Iter
open Go.RowKit Go.Proofs.YtcgpemefmakjiaaW.PrintWords Go.Proofs.YtcgpemefmakjiaaW.PrintLast
variable {P : Program} {l n : Nat} {ops : Array Oper} {md : Region.Mode} {Q : Exit → Act → World → Prop}
theorem wpIn_of_wp {o : Oper} {a : Act} {w : World} {K : Act → World → Prop} (hd : ∀ c, o.op ≠ .defer c) (h : o.wp P a w K Q) : o.wpIn (Fence.wide.inRound l) n P a w K Q := by
 refine ⟨fun f _ => trivial, ?_⟩; rw [Oper.semAt_eq _ _ _ hd]; unfold Oper.wp at h; generalize (execOp a.eval o).run P w = r at h ⊢; unfold Oper.upon at h; unfold Oper.uponIn
 split at h
 (· exact h); (· exact h); (· exact h); (· exact ⟨fun hs => (by cases hs), CallsIn.inRound l (callsIn_wide.2 h)⟩); (· exact ⟨fun hs => (by cases hs), fun c cs _ => let ⟨v, w', r, s⟩ := h c cs; ⟨v, w', r, stepsIn_wide.2 s⟩⟩); (· exact h); (· exact h.elim)
theorem wpAnyIn_of_wpAny (hQ : ¬LetsOut Q) (hd : ∀ (i : Nat) o, ops[i]? = some o → ∀ c, o.op ≠ .defer c) : ∀ (fuel : Nat) (listed : Array Bool) (a : Act) (w : World), wpAny P md ops Q fuel listed a w → wpAnyIn (Fence.wide.inRound l) n P md ops Q fuel listed a w
 | 0, _, _, _, h => h
 | fuel + 1, listed, a, w, h => ⟨h.1, fun i hi => by
  have h2 := h.2 i hi; have ih := wpAnyIn_of_wpAny hQ hd fuel; unfold wpOp at h2; unfold wpOpIn
  cases ho : ops[i]? with
  | none =>
   rw [ho] at h2; exact ih _ _ _ h2
  | some o =>
   rw [ho] at h2; simp only at h2 ⊢
   split at h2
   ·next hw =>
    rw [if_pos hw]
    rcases h2 with h2 | ⟨_, h2⟩
    (· exact Oper.wpIn_mono (fun a w h => ih _ a w h) (wpIn_of_wp (hd i o ho) h2)); (· exact absurd h2 hQ)
   ·next hw =>
    rw [if_neg hw]
    exact ⟨fun f _ => trivial, ih _ _ _ h2⟩⟩
theorem startIn_ {S : World → Prop} {ds : List Nat} {id k : Nat} {a : Act} {w : World} (t : Array Bool) (hm : P.follows .mixedOrders = true) (hQ : ¬LetsOut Q) (hd : ops.toList.all (fun o => match o.op with | .defer _ => false | _ => true) = true) (hn : ops.size = k) (hl : Array.replicate k false = t) (hS : S w.drew)
  (h : S w.drew → wpAnyLast P .any ops Q S ds k t a w.drew) : (Code.region id ops true).wpIn (Fence.wide.inRound l) n P Q a w := by
 subst hn; subst hl; refine wpIn_region_any hm (wpAnyIn_of_wpAny hQ (fun i o ho c e => ?_) _ _ _ _ (wpAny_of_last _ _ _ _ (h hS))); rw [List.all_eq_true] at hd
 have := hd o (by
  obtain ⟨h, rfl⟩ := Array.getElem?_eq_some_iff.1 ho
  exact Array.getElem_mem_toList h)
 rw [e] at this
 cases this
end Go.Proofs.Ytcgpemefmakjiaa.Iter
