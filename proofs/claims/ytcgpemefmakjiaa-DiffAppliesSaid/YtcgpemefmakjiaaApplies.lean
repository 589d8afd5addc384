/- DiffApplies: for all numbers that the statement takes, Apply, Turn and Encode return what the reference's do, on all worlds (also one that is not well shaped) and lists of changes (also with something changed); no condition beyond the statement's own. -/
import Derived.Test.YtcgpemefmakjiaaApplies5
import Derived.Test.YtcgpemefmakjiaaApplies2
import Derived.Test.YtcgpemefmakjiaaApplies3
import Derived.Test.YtcgpemefmakjiaaApplies4
import Derived.Test.YtcgpemefmakjiaaRows
import Derived.WalkKit
import Derived.ProofKit
import Derived.OpenShut
import Derived.ShutString
import Derived.ChangeOld
import Derived.Below
import Derived.SizedLaws
import Derived.Test.YtcgpemefmakjiaaApplies1
set_option linter.unusedVariables false
set_option linter.unusedSimpArgs false
namespace Go.Proofs.Ytcgpemefmakjiaa.PX
open Go.RowKit Go.Shelf Go.Proofs.Ytcgpemefmakjiaa.Iter Go.Proofs.YtcgpemefmakjiaaW.PrintWords Go.Proofs.YtcgpemefmakjiaaW.PrintLast Go.Proofs.YtcgpemefmakjiaaW.PrintMore
attribute [local go_sem] Oper.semAt_some
def turnF (f : Int) : Int := if f = -1 then -2 else if f = -2 then -1 else f
def turnC (c : S61) : S61 := ⟨c.f0, c.f1, turnF c.f2, c.f4, c.f3, c.f5⟩
def turnR (l : List S61) : List S61 := l.reverse.map turnC
def TurnPost (w : World) (r : List S61) (e : Ending) (w' : World) : Prop := ∃ v0_ : Value, e = .returned v0_ ∧ Kd.R k61 61 w' w.heap.size (fun _ => True) v0_ r ∧ Below w.heap.size w w'
theorem turn_leave (w : World) (r : List S61) (tmps : Array Value) (Ds : List Nat) (W : World) (v0 : Value) (h2 : tmps.getD 2 undef = v0) (hm : Marked w.heap.size Ds W)
  (hR : Kd.R k61 61 W w.heap.size (fun _ => True) v0 r) (hB : Below w.heap.size w W) : bodyPostM Fence.wide 5 Try.prog Try.f20 (TurnPost w r) .ret { tmps := tmps, defers := marksOf Ds } W := by
 refine leaves_marks (B := w.heap.size) (fun A => Kd.R k61 61 A w.heap.size (fun _ => True) v0 r ∧ Below w.heap.size w A) (fun A C h hs => ⟨R_stepI h.1 hs (fun _ _ => by simp), hs.below h.2 (Nat.le_refl _) (Nat.le_refl _)⟩) (fun A h => ?_) Ds W hm ⟨hR, hB⟩; refine ⟨_, results_tmp rfl _ _ _, v0, ?_, h.1, h.2⟩; rw [h2]
theorem R_keep {W W' : World} {base b5 : Nat} {cs : Array Value} {v : Value} {xs : List S61} (h : Kd.R k61 61 W base (fun _ => True) v xs) (hm : ∀ k, k ≠ b5 → W'.heap[k]? = W.heap[k]?) (h5 : W.heap[b5]? = some (.cells cs 61 (0, 0))) (hne : some b5 ≠ v.ownBlock) : Kd.R k61 61 W' base (fun _ => True) v xs := by
 obtain ⟨h0, inner, ho, hr⟩ := h; refine ⟨h0, inner, own_move ho (fun k hk => hm k (fun e => hne (by rw [← e]; exact hk.symm))), hr.imp_ (fun _ _ hp => k61.M_mono (fun k hk => hk.1) (k61.M_move (fun k hk => hm k (fun e => ?_)) (k61.M_bound hp)))⟩; obtain ⟨_, _, _, q, hq, cells, hc⟩ := hk; rw [e, h5] at hc
 injection hc with hc
 injection hc with _ hc
 subst hc; exact absurd hq (by decide)
structure TurnS (w : World) (A : Option Addr) (c : Nat) (xs : List S61) (b5 : Nat) (v' : Value) (ys : List S61) (cs : Array Value) (W : World) : Prop where
 box : W.heap[w.heap.size]? = some (.cells #[v'] 30 (0, 0))
 row : Kd.R k61 61 W w.heap.size (fun _ => True) v' ys
 bel : Below w.heap.size w W
 lst : W.heap[w.heap.size + 1]? = some (.cells #[.slice A xs.length c] 30 (0, 0))
 var : W.heap[b5]? = some (.cells cs 61 (0, 0))
 ne : some b5 ≠ v'.ownBlock
 ge : w.heap.size ≤ b5
section
variable {w : World} {A : Option Addr} {c : Nat} {xs : List S61} {b5 : Nat} {v' : Value} {ys : List S61} {cs : Array Value} {W W' : World}
theorem TurnS.below (h : TurnS w A c xs b5 v' ys cs W) (hb : Below W.heap.size W W') : TurnS w A c xs b5 v' ys cs W' :=
 ⟨(hb.block _ (blk_lt h.box)).trans h.box, Kd.R_below h.row hb, h.bel.trans (hb.mono h.bel.size), (hb.block _ (blk_lt h.lst)).trans h.lst, (hb.block _ (blk_lt h.var)).trans h.var, h.ne, h.ge⟩
theorem TurnS.ne_ (h : TurnS w A c xs b5 v' ys cs W) {i : Nat} {d : Array Value} (hi : W.heap[i]? = some (.cells d 30 (0, 0))) : i ≠ b5 := fun e => by
 rw [e, h.var] at hi
 injection hi with hi
 injection hi with _ hi
 exact absurd hi (by decide)
theorem TurnS.set (h : TurnS w A c xs b5 v' ys cs W) (k : Nat) (u : Value) : TurnS w A c xs b5 v' ys (cs.setIfInBounds k u) (W.setCell ⟨b5, k, none⟩ u) :=
 ⟨(Below.heap_setCell _ _ _ _ (h.ne_ h.box)).trans h.box, R_keep h.row (fun k hk => Below.heap_setCell _ _ _ _ hk) h.var h.ne, h.bel.setCell (p := ⟨b5, k, none⟩) h.ge _, (Below.heap_setCell _ _ _ _ (h.ne_ h.lst)).trans h.lst, by have := blk_set h.var k u; simpa using this, h.ne, h.ge⟩
theorem TurnS.keep (h : TurnS w A c xs b5 v' ys cs W) (k : Nat) (u : Value) : KeepBody w.heap.size [30, 61] W (W.setCell ⟨b5, k, none⟩ u) := KeepBody.setCell _ h.ge (fun o ho => by
 rw [show ((⟨b5, k, none⟩ : Addr).block) = b5 from rfl, h.var] at ho
 injection ho with ho
 exact ⟨_, 61, (0, 0), ho.symm, by decide⟩)
end
def TurnJ (w : World) (bo bl : Nat) (A : Option Addr) (c : Nat) (xs : List S61) (s : List Bk) (W : World) : Prop :=
 ∃ v', W.heap[bo]? = some (.cells #[v'] 30 (0, 0)) ∧ Kd.R k61 61 W w.heap.size (fun _ => True) v' (s.map (fun x => turnC x.2.1)) ∧ Below w.heap.size w W ∧ W.heap[bl]? = some (.cells #[.slice A xs.length c] 30 (0, 0))
theorem turn_end {w W W6 : World} {A : Option Addr} {c : Nat} {xs : List S61} {b5 : Nat} {v' : Value} {ys : List S61} {cs : Array Value} {t : S61} (cells : List Value) (h : TurnS w A c xs b5 v' ys cs W6) (hk : KeepBody w.heap.size [30, 61] W W6) (v1 : Value) (w1 : World)
  (hr1 : Kd.R k61 61 w1 w.heap.size (fun _ => True) v1 (ys ++ [t])) (hg1 : (W6.alloc (.cells cells.toArray 61)).grownBy w1 v'.ownBlock) :
  w1.heap[w.heap.size]? = some (.cells #[v'] 30 (0, 0)) ∧ KeepBody w.heap.size [30, 61] W (w1.setCell ⟨w.heap.size, 0, none⟩ v1) ∧
   ∃ v'', (w1.setCell ⟨w.heap.size, 0, none⟩ v1).heap[w.heap.size]? = some (.cells #[v''] 30 (0, 0)) ∧ Kd.R k61 61 (w1.setCell ⟨w.heap.size, 0, none⟩ v1) w.heap.size (fun _ => True) v'' (ys ++ [t]) ∧ Below w.heap.size w (w1.setCell ⟨w.heap.size, 0, none⟩ v1) ∧ (w1.setCell ⟨w.heap.size, 0, none⟩ v1).heap[w.heap.size + 1]? = some (.cells #[.slice A xs.length c] 30 (0, 0)) := by
 have hal : Below W6.heap.size W6 (W6.alloc (.cells cells.toArray 61)) := below_alloc (Below.refl _ _) _; have hne := Kd.R_ne h.row h.box (by decide); have hne2 := Kd.R_ne h.row h.lst (by decide); have hlt1 := blk_lt h.box; have hlt2 := blk_lt h.lst; have hbx1 : w1.heap[w.heap.size]? = some (.cells #[v'] 30 (0, 0)) := (hg1.block _ (by have := hal.size; omega) hne).trans ((hal.block _ hlt1).trans h.box); have hls1 : w1.heap[w.heap.size + 1]? = some (.cells #[.slice A xs.length c] 30 (0, 0)) := (hg1.block _ (by have := hal.size; omega) hne2).trans ((hal.block _ hlt2).trans h.lst)
 have hrow : ∀ r, v'.ownBlock = some r → w.heap.size ≤ r := fun r e => Kd.R_base h.row r e
 have hkb : KeepBody w.heap.size [30, 61] W6 (w1.setCell ⟨w.heap.size, 0, none⟩ v1) :=
  ((KeepBody.alloc _ _ _ _).trans (KeepBody.grown hg1 (fun r e => ⟨hrow r e, fun o ho => by
   obtain ⟨cells, hc⟩ := Kd.R_typed (Kd.R_below h.row hal) r e; rw [hc] at ho
   injection ho with ho
   exact ⟨cells, 61, (0, 0), ho.symm, by decide⟩⟩))).trans (KeepBody.setCell _ (Nat.le_refl _) (fun o ho => by
   rw [show ((⟨w.heap.size, 0, none⟩ : Addr).block) = w.heap.size from rfl, hbx1] at ho
   injection ho with ho
   exact ⟨_, 30, (0, 0), ho.symm, by decide⟩))
 refine ⟨hbx1, hk.trans hkb, v1, ?_, ?_, ?_, ?_⟩
 ·have := blk_set hbx1 0 v1
  simpa using this
 (· exact Kd.R_set hr1 hbx1 (by decide) 0 v1); (· exact ((h.bel.trans (hal.mono h.bel.size)).grown hg1 (Nat.le_trans h.bel.size hal.size) (fun r e => hrow r e)).setCell (p := ⟨w.heap.size, 0, none⟩) (Nat.le_refl _) v1); (· exact (Below.heap_setCell _ _ _ _ (by simp)).trans hls1)
set_option maxHeartbeats 2000000 in
set_option maxRecDepth 100000 in
theorem turn_in (A : Option Addr) (c : Nat) (xs : List S61) (w : World) (hr : Kd.C k61 w A xs.length xs) (hc : xs.length ≤ c) (hlen : xs.length ≤ 1000000) (hwd : ∀ x ∈ xs, x.f5.length ≤ 1000000) :
  Calls Try.prog 20 #[.slice A xs.length c] w (TurnPost w (turnR xs)) := by
 refine (callsIn_wide (n := 5)).1 (callsIn_of_wp_marks Try.func20 rfl trivial ?_ rfl); refine wpIn_wide.2 ?_; simp only [Try.ntmps20, List.size_toArray, List.length_cons, List.length_nil, Nat.reduceAdd, Nat.reduceSub, Array.replicate_succ, Array.replicate_zero, List.push_toArray, List.append_toArray, List.nil_append, List.cons_append]; have HR := A_ hr; have HC := A_ hc; have HW := A_ hwd; clear hr hc hwd
 go_wp2_with (go_at_call 45; refine (backward_any _ _ _ _).mono ?_; rintro e w3 ⟨rfl, rfl⟩)
 obtain ⟨W0, hW0⟩ : ∃ W0, W0 = (w.alloc (.cells #[.slice none 0 0] 30)).alloc (.cells #[.slice A xs.length c] 30) := ⟨_, rfl⟩
 have hsz : W0.heap.size = w.heap.size + 2 := by rw [hW0]; simp
 have hb0 : Below w.heap.size w W0 := by rw [hW0]; exact below_alloc (below_alloc (Below.refl _ _) _) _
 have hbo : W0.heap[w.heap.size]? = some (.cells #[.slice none 0 0] 30 (0, 0)) := by
  rw [hW0, Below.heap_alloc _ _ _ (by simp)]; exact heap_alloc_new w _
 have hbl : W0.heap[w.heap.size + 1]? = some (.cells #[.slice A xs.length c] 30 (0, 0)) := by
  rw [hW0]; have := heap_alloc_new (w.alloc (.cells #[.slice none 0 0] 30)) (.cells #[.slice A xs.length c] 30)
  simpa using this
 rw [← hW0]; clear hW0; have HB0 := A_ hb0; clear hb0
 refine wpIn_wide.1 (wpIn_range_onI (n := 5) (α := Bk) rfl (by omega) (gf := 68) (lb := #[.pointer (some ⟨w.heap.size + 1, 0, none⟩)]) rfl trivial (enters_of Try.func68 (by kernel_rfl) rfl)
  (enc := Bk.enc) (T := Bk.T w xs) (S := fun ys _ => ys.map (·.2.1) = xs.reverse) (N := 1000000) (B := w.heap.size) (ts := [30, 61]) (tI := []) (H := fun W => Below w.heap.size w W ∧ W.heap[w.heap.size + 1]? = some (.cells #[.slice A xs.length c] 30 (0, 0))) (by omega)
  (fun L => ?iter) (fun x => rfl)
  (fun s W => TurnJ w w.heap.size (w.heap.size + 1) A c xs s W)
  (fun x a1 W => ∃ b5 v2, W.heap[b5]? = some (.cells x.cells 61 (0, 0)) ∧ w.heap.size ≤ b5 ∧ W.heap[w.heap.size]? = some (.cells #[v2] 30 (0, 0)) ∧ some b5 ≠ v2.ownBlock ∧ a1 = { tmps := #[.slice A xs.length c, undef, .slice none 0 0, .pointer (some ⟨w.heap.size, 0, none⟩), undef, .pointer (some ⟨b5, 0, none⟩), .slice A xs.length c, .func (.func 68) #[] #[.pointer (some ⟨w.heap.size + 1, 0, none⟩)], .int .i64 x.1, .agg x.cells, undef, undef, undef, undef, undef, undef, undef, undef, undef, undef, undef, undef, undef, undef, undef, undef, undef, undef, undef, undef, undef, undef, undef], defers := [] })
  ?hIH ?hI ?hT (fun _ _ _ h _ => h) ?hAx ?h0 ?assign ?body ?done)
 case iter => exact backward1_iterates _ _ _ _ w _ _ A c xs _ HR.out hlen hlen
 case hIH =>
  rintro s W ⟨v', _, _, hB, hl⟩; exact ⟨hB, hl⟩
 case hI =>
  rintro s P C ⟨v', hb, hr, hB, hl⟩ hst; exact ⟨v', hst.other hb (by decide), R_stepI hr hst (fun _ _ => by simp), hst.below hB (Nat.le_refl _) (by omega), hst.other hl (by decide)⟩
 case hT =>
  rintro x P C h hst; exact h
 case hAx =>
  rintro x a1 P C ⟨b5, v2, h5, hb, hv, hn, e⟩ hst; exact ⟨b5, v2, hst.other h5 (by decide), hb, hst.other hv (by decide), hn, e⟩
 case h0 => exact ⟨_, hbo, Kd.R_nil _ _ _ _ _, HB0.out, hbl⟩
 case assign =>
  rintro l pre ⟨i, ch, vs⟩ W K ⟨v', hb, hr, hB, hl⟩ ht hK; obtain ⟨hmem, A5, c5, es, hl5, hi5⟩ := ht; have es : vs = .slice A5 ch.f5.length c5 := es; subst es; have hal : Below W.heap.size W (W.alloc (.cells (Bk.cells (i, ch, .slice A5 ch.f5.length c5)) 61)) := below_alloc (Below.refl _ _) _
  have HK := A_ (hK { tmps := #[.slice A xs.length c, undef, .slice none 0 0, .pointer (some ⟨w.heap.size, 0, none⟩), undef, .pointer (some ⟨W.heap.size, 0, none⟩), .slice A xs.length c, .func (.func 68) #[] #[.pointer (some ⟨w.heap.size + 1, 0, none⟩)], .int .i64 i, .agg #[.int .i64 ch.f0, .int .i64 ch.f1, .int .i64 ch.f2, .int .i64 ch.f3, .int .i64 ch.f4, .slice A5 ch.f5.length c5], undef, undef, undef, undef, undef, undef, undef, undef, undef, undef, undef, undef, undef, undef, undef, undef, undef, undef, undef, undef, undef, undef, undef], defers := [] } (W.alloc (.cells (Bk.cells (i, ch, .slice A5 ch.f5.length c5)) 61)) (KeepBody.alloc _ _ _ _)
   ⟨v', (hal.block _ (blk_lt hb)).trans hb, Kd.R_below hr hal, hB.trans (hal.mono hB.size), (hal.block _ (blk_lt hl)).trans hl⟩ ⟨hmem, A5, c5, rfl, hl5, hi5⟩ ⟨W.heap.size, v', heap_alloc_new W _, hB.size, (hal.block _ (blk_lt hb)).trans hb, fun e => Nat.lt_irrefl _ (Kd.R_lt hr _ e.symm), rfl⟩)
  clear hb hr hB hl hK hal hl5 hi5; simp only [Bk.enc, Bk.cells] at HK ⊢
  gi_wp2
  exact HK.out
 case body =>
  rintro l pre ⟨i, ch, vs⟩ a1 W ⟨v', hb, hr, hB, hl⟩ hlen2 ht ⟨b5, v2, h5, hb5, hb2, hne, rfl⟩; obtain ⟨hmem, A5, c5, es, hl5, hi5⟩ := ht; have es : vs = .slice A5 ch.f5.length c5 := es; subst es
  have ev : v2 = v' := by
   rw [hb] at hb2
   injection hb2 with hb2
   injection hb2 with hb2
   injection hb2 with hb2
   injection hb2 with hb2
   exact hb2.symm
  subst ev; simp only [Bk.cells] at h5; have HS0 := A_ (show TurnS w A c xs b5 v2 (pre.map (fun x => turnC x.2.1)) #[.int .i64 ch.f0, .int .i64 ch.f1, .int .i64 ch.f2, .int .i64 ch.f3, .int .i64 ch.f4, .slice A5 ch.f5.length c5] W from ⟨hb, hr, hB, hl, h5, hne, hb5⟩); have HI5 := A_ hi5; have HCLN : Aside0 (slices_Clone_int_int.f ch.f5 = some ch.f5) := ⟨by unfold slices_Clone_int_int.f; rw [if_pos (by have h : ch.f5.length ≤ 1000000 := HW.out _ hmem; omega)]⟩
  have hlx : ((pre.map (fun x => turnC x.2.1)).length + 1) * 64 ≤ 140737488355328 := by
   rw [List.length_map]; omega
  have HLX := A_ hlx; have HSN := A_ (show (pre ++ [((i, ch, .slice A5 ch.f5.length c5) : Bk)]).map (fun x => turnC x.2.1) = pre.map (fun x => turnC x.2.1) ++ [turnC ch] by rw [List.map_append]; rfl); obtain ⟨ys, hys⟩ : ∃ ys, ys = pre.map (fun x => turnC x.2.1) := ⟨_, rfl⟩; rw [← hys] at HS0 HLX HSN; have hc0 := cell_of_row _ _ 0 _ 61 (0, 0) h5; have hc1 := cell_of_row _ _ 1 _ 61 (0, 0) h5; have hc2 := cell_of_row _ _ 2 _ 61 (0, 0) h5; have hc3 := cell_of_row _ _ 3 _ 61 (0, 0) h5; have hc4 := cell_of_row _ _ 4 _ 61 (0, 0) h5; have hc5 := cell_of_row _ _ 5 _ 61 (0, 0) h5
  have hf2 : W.frozen? ⟨b5, 2, none⟩ = false := by simp [World.frozen?, h5]
  clear hys hlx hmem hi5 hB hr hb hl h5 hne hb2 es hb5
  by_cases f1 : ch.f2 = -1
  ·have f2 : True := trivial
   have g1 : (ch.f2 == -1) = true := beq_iff_eq.2 f1
   gi_wp2
   obtain ⟨WX, hWX⟩ : ∃ WX, WX = W.setCell ⟨b5, 2, none⟩ (.int .i64 (-2)) := ⟨_, rfl⟩; have HS1 := A_ (show TurnS w A c xs b5 v2 ys #[.int .i64 ch.f0, .int .i64 ch.f1, .int .i64 (-2), .int .i64 ch.f3, .int .i64 ch.f4, .slice A5 ch.f5.length c5] WX from by rw [hWX]; exact HS0.out.set 2 _); have HK1 := A_ (show KeepBody w.heap.size [30, 61] W WX from by rw [hWX]; exact HS0.out.keep 2 _); clear hc0 hc1 hc2 hc3 hc4 hc5 hf2; rw [← hWX]; have HS4 : Aside0 (TurnS w A c xs b5 v2 ys #[.int .i64 ch.f0, .int .i64 ch.f1, .int .i64 (-2), .int .i64 ch.f3, .int .i64 ch.f4, .slice A5 ch.f5.length c5] WX.drew) := ⟨HS1.out.below (below_drew (Below.refl _ _))⟩; have HK4 : Aside0 (KeepBody w.heap.size [30, 61] W WX.drew) := ⟨HK1.out.trans (KeepBody.grown (grown_of_below (below_drew (Below.refl _ _)) none) (fun r e => by cases e))⟩; have hc3 : WX.drew.cell? ⟨b5, 3, none⟩ = some (.int .i64 ch.f3) := cell_of_row _ _ 3 _ 61 (0, 0) HS4.out.var; have hc4 : WX.drew.cell? ⟨b5, 4, none⟩ = some (.int .i64 ch.f4) := cell_of_row _ _ 4 _ 61 (0, 0) HS4.out.var; have hc5 : WX.drew.cell? ⟨b5, 5, none⟩ = some (.slice A5 ch.f5.length c5) := cell_of_row _ _ 5 _ 61 (0, 0) HS4.out.var; clear HS1 HK1; refine Iter.startIn_ (k := 13) (S := fun w' => w'.cell? ⟨b5, 3, none⟩ = some (.int .i64 ch.f3) ∧ w'.cell? ⟨b5, 4, none⟩ = some (.int .i64 ch.f4) ∧ w'.cell? ⟨b5, 5, none⟩ = some (.slice A5 ch.f5.length c5)) (ds := [8, 10, 12]) (B_ 13 0) (by kernel_rfl) (fun h => by obtain ⟨_, _, h⟩ := h; exact h) (by kernel_rfl) rfl rfl ⟨hc3, hc4, hc5⟩ (fun hHeld => ?_); generalize WX.drew = w4 at HS4 HK4 hHeld hc3 hc4 hc5 ⊢; refine p_ 0 18 (B_ 13 1) ?_; refine p_ 2 20 (B_ 13 5) ?_; refine p_ 4 22 (B_ 13 21) ?_; refine t_ 1 19 (B_ 13 23) hHeld ?_; refine t_ 3 21 (B_ 13 31) hHeld ?_; refine t_ 5 23 (B_ 13 63) hHeld ?_; refine p_ 7 25 (B_ 13 191) ?_; refine one_ (i := 6) (N := some 24) (B_ 13 255) rfl rfl (by kernel_rfl) (by decide) (fun K hK => ?_); refine goes_ Try.func43 (by kernel_rfl) rfl #[.slice A5 ch.f5.length c5] (by rfl) rfl rfl (by simp only [List.map_toArray, List.map_cons, List.map_nil]; rfl) ?_
   with_reducible refine (slices_Clone_int_int.calls A5 c5 ch.f5 ch.f5 w4 (Kd.C_below HI5.out HS4.out.bel) hl5 HCLN.out).mono ?_
   rintro e w5 ⟨vc, rfl, hR, hB2⟩; refine ⟨_, rfl, ?_⟩; obtain ⟨Av, cv, rfl⟩ := Kd.R_slice hR; have HS5 := A_ (HS4.out.below hB2); have HR5 := A_ (Kd.R_lower hR HS4.out.bel.size); have HK5 := A_ (HK4.out.trans (KeepBody.grown (grown_of_below hB2 none) (fun r e => by cases e))); have hc0 := cell_of_row _ _ 0 _ 61 (0, 0) HS5.out.var; have hc1 := cell_of_row _ _ 1 _ 61 (0, 0) HS5.out.var; have hc2 := cell_of_row _ _ 2 _ 61 (0, 0) HS5.out.var; have hc3 := cell_of_row _ _ 3 _ 61 (0, 0) HS5.out.var; have hc4 := cell_of_row _ _ 4 _ 61 (0, 0) HS5.out.var; have hc5 := cell_of_row _ _ 5 _ 61 (0, 0) HS5.out.var
   have hf3 : w5.frozen? ⟨b5, 3, none⟩ = false := by simp [World.frozen?, HS5.out.var]
   have hf4 : w5.frozen? ⟨b5, 4, none⟩ = false := by simp [World.frozen?, HS5.out.var]
   have hf5 : w5.frozen? ⟨b5, 5, none⟩ = false := by simp [World.frozen?, HS5.out.var]
   clear hR hB2; refine hK.out _ _ ⟨hc3, hc4, hc5⟩ (fun hHeld => ?_); clear hK K; refine norm_ (a' := ?_) ?_ ?_; rotate_left
   ·show Act.put _ (some 24) _ = _
    simp only [Act.put, sA_, sB_, sC_, i64_w, i32_w]; rfl
   refine last_ (i := 8) (N := none) (B_ 13 511) rfl rfl (by kernel_rfl) (by decide) (fun K hK => ?_); refine skip_ (w1 := ?_) (by rfl) rfl ?_ ?_; rotate_left; (· go_simp; rfl); refine hK.out _ _ ?_; clear hK K; refine p_ 9 26 (B_ 13 1023) ?_; refine last_ (i := 10) (N := none) (B_ 13 2047) rfl rfl (by kernel_rfl) (by decide) (fun K hK => ?_); refine skip_ (w1 := ?_) (by rfl) rfl ?_ ?_; rotate_left; (· go_simp; rfl); refine hK.out _ _ ?_; clear hK K; refine p_ 11 27 (B_ 13 4095) ?_; refine last_ (i := 12) (N := none) (B_ 13 8191) rfl rfl (by kernel_rfl) (by decide) (fun K hK => ?_); refine skip_ (w1 := ?_) (by rfl) rfl ?_ ?_; rotate_left; (· go_simp; rfl); refine hK.out _ _ ?_; clear hK K; refine done_ (by kernel_rfl) ?_; have HS6 := A_ (((HS5.out.set 3 (.int .i64 ch.f4)).set 4 (.int .i64 ch.f3)).set 5 (.slice Av ch.f5.length cv)); have HK6 := A_ (((HK5.out.trans (HS5.out.keep 3 (.int .i64 ch.f4))).trans ((HS5.out.set 3 (.int .i64 ch.f4)).keep 4 (.int .i64 ch.f3))).trans (((HS5.out.set 3 (.int .i64 ch.f4)).set 4 (.int .i64 ch.f3)).keep 5 (.slice Av ch.f5.length cv))); have HR6 := A_ (Kd.R_set (Kd.R_set (Kd.R_set HR5.out HS5.out.var (by decide) 3 (.int .i64 ch.f4)) (HS5.out.set 3 (.int .i64 ch.f4)).var (by decide) 4 (.int .i64 ch.f3)) ((HS5.out.set 3 (.int .i64 ch.f4)).set 4 (.int .i64 ch.f3)).var (by decide) 5 (.slice Av ch.f5.length cv)); have HT := A_ (show turnC ch = ⟨ch.f0, ch.f1, (-2), ch.f4, ch.f3, ch.f5⟩ by unfold turnC turnF; simp [f1, f2]); rw [HT.out] at HSN; obtain ⟨W6, hW6⟩ : ∃ W6, W6 = ((w5.setCell ⟨b5, 3, none⟩ (.int .i64 ch.f4)).setCell ⟨b5, 4, none⟩ (.int .i64 ch.f3)).setCell ⟨b5, 5, none⟩ (.slice Av ch.f5.length cv) := ⟨_, rfl⟩; rw [← hW6] at HS6 HK6 HR6 ⊢; clear hW6 HS5 HK5 HR5 HT hc0 hc1 hc2 hc3 hc4 hc5 hf3 hf4 hf5; have HMP := A_ (M_ne (k61_mkM W6 w.heap.size (fun _ => True) (⟨ch.f0, ch.f1, (-2), ch.f4, ch.f3, ch.f5⟩ : S61) HR6.out) HS6.out.row); have HEND := A_ (turn_end (t := ⟨ch.f0, ch.f1, (-2), ch.f4, ch.f3, ch.f5⟩) [.int .i64 ch.f0, .int .i64 ch.f1, .int .i64 (-2), .int .i64 ch.f4, .int .i64 ch.f3, .slice Av ch.f5.length cv] HS6.out HK6.out); obtain ⟨A2, c2, ev⟩ := Kd.R_slice HS6.out.row; obtain ⟨nv, hnv⟩ : ∃ nv, nv = ys.length := ⟨_, rfl⟩; rw [← hnv] at ev; subst ev; clear hnv; have hc0 := cell_of_row _ _ 0 _ 61 (0, 0) HS6.out.var; have hc1 := cell_of_row _ _ 1 _ 61 (0, 0) HS6.out.var; have hc2 := cell_of_row _ _ 2 _ 61 (0, 0) HS6.out.var; have hc3 := cell_of_row _ _ 3 _ 61 (0, 0) HS6.out.var; have hc4 := cell_of_row _ _ 4 _ 61 (0, 0) HS6.out.var; have hc5 := cell_of_row _ _ 5 _ 61 (0, 0) HS6.out.var; have hcb := cell_of_row _ _ 0 _ 30 (0, 0) HS6.out.box; have hu61 := Try.underlying61
   gi_wp2_with ((gi_at_builtin; refine R_append_in k61 (W := W6) w.heap.size rfl (.tmp 28) (.tmp 30) 30 61 (.agg #[(.int .i64 0), (.int .i64 0), (.int .i64 0), (.int .i64 0), (.int .i64 0), (.slice none 0 0)]) 64 rfl Try.underlying30 info61 rfl (by decide) (by omega) (.slice A2 nv c2) ys (⟨ch.f0, ch.f1, (-2), ch.f4, ch.f3, ch.f5⟩ : S61) [.int .i64 ch.f0, .int .i64 ch.f1, .int .i64 (-2), .int .i64 ch.f4, .int .i64 ch.f3, .slice Av ch.f5.length cv] (fun _ => True) (fun k_ => True ∧ some k_ ≠ (.slice A2 nv c2 : Value).ownBlock) rfl rfl HMP.out (fun _ hk => hk) (fun _ _ => trivial) HS6.out.row HS6.out.bel.size HLX.out ?_; intro v1 w1 hr1 hg1 hv1; obtain ⟨A1, c1', e1⟩ := hv1; obtain ⟨n1, hn1⟩ : ∃ n1, n1 = ys.length + 1 := ⟨_, rfl⟩; rw [← hn1] at e1; subst e1; clear hn1; have HE := HEND.out _ w1 hr1 hg1; obtain ⟨hbx1, hE2⟩ := HE; have HE2 := A_ hE2; have hcb1 := cell_of_row _ _ 0 _ 30 (0, 0) hbx1; have hfb1 : w1.frozen? ⟨w.heap.size, 0, none⟩ = false := (by simp [World.frozen?, hbx1]); clear hbx1 hE2 hr1 hg1))
   obtain ⟨hk9, v9, q1, q2, q3, q4⟩ := HE2.out; exact ⟨hk9, v9, q1, by rw [HSN.out]; exact q2, q3, q4⟩
  by_cases f2 : ch.f2 = -2
  ·have g1 : (ch.f2 == -1) = false := beq_eq_false_iff_ne.2 f1
   have g2 : (ch.f2 == -2) = true := beq_iff_eq.2 f2
   gi_wp2
   obtain ⟨WX, hWX⟩ : ∃ WX, WX = W.setCell ⟨b5, 2, none⟩ (.int .i64 (-1)) := ⟨_, rfl⟩; have HS1 := A_ (show TurnS w A c xs b5 v2 ys #[.int .i64 ch.f0, .int .i64 ch.f1, .int .i64 (-1), .int .i64 ch.f3, .int .i64 ch.f4, .slice A5 ch.f5.length c5] WX from by rw [hWX]; exact HS0.out.set 2 _); have HK1 := A_ (show KeepBody w.heap.size [30, 61] W WX from by rw [hWX]; exact HS0.out.keep 2 _); clear hc0 hc1 hc2 hc3 hc4 hc5 hf2; rw [← hWX]; have HS4 : Aside0 (TurnS w A c xs b5 v2 ys #[.int .i64 ch.f0, .int .i64 ch.f1, .int .i64 (-1), .int .i64 ch.f3, .int .i64 ch.f4, .slice A5 ch.f5.length c5] WX.drew) := ⟨HS1.out.below (below_drew (Below.refl _ _))⟩; have HK4 : Aside0 (KeepBody w.heap.size [30, 61] W WX.drew) := ⟨HK1.out.trans (KeepBody.grown (grown_of_below (below_drew (Below.refl _ _)) none) (fun r e => by cases e))⟩; have hc3 : WX.drew.cell? ⟨b5, 3, none⟩ = some (.int .i64 ch.f3) := cell_of_row _ _ 3 _ 61 (0, 0) HS4.out.var; have hc4 : WX.drew.cell? ⟨b5, 4, none⟩ = some (.int .i64 ch.f4) := cell_of_row _ _ 4 _ 61 (0, 0) HS4.out.var; have hc5 : WX.drew.cell? ⟨b5, 5, none⟩ = some (.slice A5 ch.f5.length c5) := cell_of_row _ _ 5 _ 61 (0, 0) HS4.out.var; clear HS1 HK1; refine Iter.startIn_ (k := 13) (S := fun w' => w'.cell? ⟨b5, 3, none⟩ = some (.int .i64 ch.f3) ∧ w'.cell? ⟨b5, 4, none⟩ = some (.int .i64 ch.f4) ∧ w'.cell? ⟨b5, 5, none⟩ = some (.slice A5 ch.f5.length c5)) (ds := [8, 10, 12]) (B_ 13 0) (by kernel_rfl) (fun h => by obtain ⟨_, _, h⟩ := h; exact h) (by kernel_rfl) rfl rfl ⟨hc3, hc4, hc5⟩ (fun hHeld => ?_); generalize WX.drew = w4 at HS4 HK4 hHeld hc3 hc4 hc5 ⊢; refine p_ 0 18 (B_ 13 1) ?_; refine p_ 2 20 (B_ 13 5) ?_; refine p_ 4 22 (B_ 13 21) ?_; refine t_ 1 19 (B_ 13 23) hHeld ?_; refine t_ 3 21 (B_ 13 31) hHeld ?_; refine t_ 5 23 (B_ 13 63) hHeld ?_; refine p_ 7 25 (B_ 13 191) ?_; refine one_ (i := 6) (N := some 24) (B_ 13 255) rfl rfl (by kernel_rfl) (by decide) (fun K hK => ?_); refine goes_ Try.func43 (by kernel_rfl) rfl #[.slice A5 ch.f5.length c5] (by rfl) rfl rfl (by simp only [List.map_toArray, List.map_cons, List.map_nil]; rfl) ?_
   with_reducible refine (slices_Clone_int_int.calls A5 c5 ch.f5 ch.f5 w4 (Kd.C_below HI5.out HS4.out.bel) hl5 HCLN.out).mono ?_
   rintro e w5 ⟨vc, rfl, hR, hB2⟩; refine ⟨_, rfl, ?_⟩; obtain ⟨Av, cv, rfl⟩ := Kd.R_slice hR; have HS5 := A_ (HS4.out.below hB2); have HR5 := A_ (Kd.R_lower hR HS4.out.bel.size); have HK5 := A_ (HK4.out.trans (KeepBody.grown (grown_of_below hB2 none) (fun r e => by cases e))); have hc0 := cell_of_row _ _ 0 _ 61 (0, 0) HS5.out.var; have hc1 := cell_of_row _ _ 1 _ 61 (0, 0) HS5.out.var; have hc2 := cell_of_row _ _ 2 _ 61 (0, 0) HS5.out.var; have hc3 := cell_of_row _ _ 3 _ 61 (0, 0) HS5.out.var; have hc4 := cell_of_row _ _ 4 _ 61 (0, 0) HS5.out.var; have hc5 := cell_of_row _ _ 5 _ 61 (0, 0) HS5.out.var
   have hf3 : w5.frozen? ⟨b5, 3, none⟩ = false := by simp [World.frozen?, HS5.out.var]
   have hf4 : w5.frozen? ⟨b5, 4, none⟩ = false := by simp [World.frozen?, HS5.out.var]
   have hf5 : w5.frozen? ⟨b5, 5, none⟩ = false := by simp [World.frozen?, HS5.out.var]
   clear hR hB2; refine hK.out _ _ ⟨hc3, hc4, hc5⟩ (fun hHeld => ?_); clear hK K; refine norm_ (a' := ?_) ?_ ?_; rotate_left
   ·show Act.put _ (some 24) _ = _
    simp only [Act.put, sA_, sB_, sC_, i64_w, i32_w]; rfl
   refine last_ (i := 8) (N := none) (B_ 13 511) rfl rfl (by kernel_rfl) (by decide) (fun K hK => ?_); refine skip_ (w1 := ?_) (by rfl) rfl ?_ ?_; rotate_left; (· go_simp; rfl); refine hK.out _ _ ?_; clear hK K; refine p_ 9 26 (B_ 13 1023) ?_; refine last_ (i := 10) (N := none) (B_ 13 2047) rfl rfl (by kernel_rfl) (by decide) (fun K hK => ?_); refine skip_ (w1 := ?_) (by rfl) rfl ?_ ?_; rotate_left; (· go_simp; rfl); refine hK.out _ _ ?_; clear hK K; refine p_ 11 27 (B_ 13 4095) ?_; refine last_ (i := 12) (N := none) (B_ 13 8191) rfl rfl (by kernel_rfl) (by decide) (fun K hK => ?_); refine skip_ (w1 := ?_) (by rfl) rfl ?_ ?_; rotate_left; (· go_simp; rfl); refine hK.out _ _ ?_; clear hK K; refine done_ (by kernel_rfl) ?_; have HS6 := A_ (((HS5.out.set 3 (.int .i64 ch.f4)).set 4 (.int .i64 ch.f3)).set 5 (.slice Av ch.f5.length cv)); have HK6 := A_ (((HK5.out.trans (HS5.out.keep 3 (.int .i64 ch.f4))).trans ((HS5.out.set 3 (.int .i64 ch.f4)).keep 4 (.int .i64 ch.f3))).trans (((HS5.out.set 3 (.int .i64 ch.f4)).set 4 (.int .i64 ch.f3)).keep 5 (.slice Av ch.f5.length cv))); have HR6 := A_ (Kd.R_set (Kd.R_set (Kd.R_set HR5.out HS5.out.var (by decide) 3 (.int .i64 ch.f4)) (HS5.out.set 3 (.int .i64 ch.f4)).var (by decide) 4 (.int .i64 ch.f3)) ((HS5.out.set 3 (.int .i64 ch.f4)).set 4 (.int .i64 ch.f3)).var (by decide) 5 (.slice Av ch.f5.length cv)); have HT := A_ (show turnC ch = ⟨ch.f0, ch.f1, (-1), ch.f4, ch.f3, ch.f5⟩ by unfold turnC turnF; simp [f1, f2]); rw [HT.out] at HSN; obtain ⟨W6, hW6⟩ : ∃ W6, W6 = ((w5.setCell ⟨b5, 3, none⟩ (.int .i64 ch.f4)).setCell ⟨b5, 4, none⟩ (.int .i64 ch.f3)).setCell ⟨b5, 5, none⟩ (.slice Av ch.f5.length cv) := ⟨_, rfl⟩; rw [← hW6] at HS6 HK6 HR6 ⊢; clear hW6 HS5 HK5 HR5 HT hc0 hc1 hc2 hc3 hc4 hc5 hf3 hf4 hf5; have HMP := A_ (M_ne (k61_mkM W6 w.heap.size (fun _ => True) (⟨ch.f0, ch.f1, (-1), ch.f4, ch.f3, ch.f5⟩ : S61) HR6.out) HS6.out.row); have HEND := A_ (turn_end (t := ⟨ch.f0, ch.f1, (-1), ch.f4, ch.f3, ch.f5⟩) [.int .i64 ch.f0, .int .i64 ch.f1, .int .i64 (-1), .int .i64 ch.f4, .int .i64 ch.f3, .slice Av ch.f5.length cv] HS6.out HK6.out); obtain ⟨A2, c2, ev⟩ := Kd.R_slice HS6.out.row; obtain ⟨nv, hnv⟩ : ∃ nv, nv = ys.length := ⟨_, rfl⟩; rw [← hnv] at ev; subst ev; clear hnv; have hc0 := cell_of_row _ _ 0 _ 61 (0, 0) HS6.out.var; have hc1 := cell_of_row _ _ 1 _ 61 (0, 0) HS6.out.var; have hc2 := cell_of_row _ _ 2 _ 61 (0, 0) HS6.out.var; have hc3 := cell_of_row _ _ 3 _ 61 (0, 0) HS6.out.var; have hc4 := cell_of_row _ _ 4 _ 61 (0, 0) HS6.out.var; have hc5 := cell_of_row _ _ 5 _ 61 (0, 0) HS6.out.var; have hcb := cell_of_row _ _ 0 _ 30 (0, 0) HS6.out.box; have hu61 := Try.underlying61
   gi_wp2_with ((gi_at_builtin; refine R_append_in k61 (W := W6) w.heap.size rfl (.tmp 28) (.tmp 30) 30 61 (.agg #[(.int .i64 0), (.int .i64 0), (.int .i64 0), (.int .i64 0), (.int .i64 0), (.slice none 0 0)]) 64 rfl Try.underlying30 info61 rfl (by decide) (by omega) (.slice A2 nv c2) ys (⟨ch.f0, ch.f1, (-1), ch.f4, ch.f3, ch.f5⟩ : S61) [.int .i64 ch.f0, .int .i64 ch.f1, .int .i64 (-1), .int .i64 ch.f4, .int .i64 ch.f3, .slice Av ch.f5.length cv] (fun _ => True) (fun k_ => True ∧ some k_ ≠ (.slice A2 nv c2 : Value).ownBlock) rfl rfl HMP.out (fun _ hk => hk) (fun _ _ => trivial) HS6.out.row HS6.out.bel.size HLX.out ?_; intro v1 w1 hr1 hg1 hv1; obtain ⟨A1, c1', e1⟩ := hv1; obtain ⟨n1, hn1⟩ : ∃ n1, n1 = ys.length + 1 := ⟨_, rfl⟩; rw [← hn1] at e1; subst e1; clear hn1; have HE := HEND.out _ w1 hr1 hg1; obtain ⟨hbx1, hE2⟩ := HE; have HE2 := A_ hE2; have hcb1 := cell_of_row _ _ 0 _ 30 (0, 0) hbx1; have hfb1 : w1.frozen? ⟨w.heap.size, 0, none⟩ = false := (by simp [World.frozen?, hbx1]); clear hbx1 hE2 hr1 hg1))
   obtain ⟨hk9, v9, q1, q2, q3, q4⟩ := HE2.out; exact ⟨hk9, v9, q1, by rw [HSN.out]; exact q2, q3, q4⟩
  have g1 : (ch.f2 == -1) = false := beq_eq_false_iff_ne.2 f1; have g2 : (ch.f2 == -2) = false := beq_eq_false_iff_ne.2 f2
  gi_wp2
  obtain ⟨WX, hWX⟩ : ∃ WX, WX = W := ⟨_, rfl⟩; have HS1 := A_ (show TurnS w A c xs b5 v2 ys #[.int .i64 ch.f0, .int .i64 ch.f1, .int .i64 ch.f2, .int .i64 ch.f3, .int .i64 ch.f4, .slice A5 ch.f5.length c5] WX from by rw [hWX]; exact HS0.out); have HK1 := A_ (show KeepBody w.heap.size [30, 61] W WX from by rw [hWX]; exact KeepBody.refl _ _ _); rw [show Code.wpIn (Fence.wide.inRound l) 3 Try.prog = Code.wpIn (Fence.wide.inRound l) 3 Try.prog from rfl]; clear hc0 hc1 hc2 hc3 hc4 hc5 hf2; rw [← hWX]; have HS4 : Aside0 (TurnS w A c xs b5 v2 ys #[.int .i64 ch.f0, .int .i64 ch.f1, .int .i64 ch.f2, .int .i64 ch.f3, .int .i64 ch.f4, .slice A5 ch.f5.length c5] WX.drew) := ⟨HS1.out.below (below_drew (Below.refl _ _))⟩; have HK4 : Aside0 (KeepBody w.heap.size [30, 61] W WX.drew) := ⟨HK1.out.trans (KeepBody.grown (grown_of_below (below_drew (Below.refl _ _)) none) (fun r e => by cases e))⟩; have hc3 : WX.drew.cell? ⟨b5, 3, none⟩ = some (.int .i64 ch.f3) := cell_of_row _ _ 3 _ 61 (0, 0) HS4.out.var; have hc4 : WX.drew.cell? ⟨b5, 4, none⟩ = some (.int .i64 ch.f4) := cell_of_row _ _ 4 _ 61 (0, 0) HS4.out.var; have hc5 : WX.drew.cell? ⟨b5, 5, none⟩ = some (.slice A5 ch.f5.length c5) := cell_of_row _ _ 5 _ 61 (0, 0) HS4.out.var; clear HS1 HK1; refine Iter.startIn_ (k := 13) (S := fun w' => w'.cell? ⟨b5, 3, none⟩ = some (.int .i64 ch.f3) ∧ w'.cell? ⟨b5, 4, none⟩ = some (.int .i64 ch.f4) ∧ w'.cell? ⟨b5, 5, none⟩ = some (.slice A5 ch.f5.length c5)) (ds := [8, 10, 12]) (B_ 13 0) (by kernel_rfl) (fun h => by obtain ⟨_, _, h⟩ := h; exact h) (by kernel_rfl) rfl rfl ⟨hc3, hc4, hc5⟩ (fun hHeld => ?_); generalize WX.drew = w4 at HS4 HK4 hHeld hc3 hc4 hc5 ⊢; refine p_ 0 18 (B_ 13 1) ?_; refine p_ 2 20 (B_ 13 5) ?_; refine p_ 4 22 (B_ 13 21) ?_; refine t_ 1 19 (B_ 13 23) hHeld ?_; refine t_ 3 21 (B_ 13 31) hHeld ?_; refine t_ 5 23 (B_ 13 63) hHeld ?_; refine p_ 7 25 (B_ 13 191) ?_; refine one_ (i := 6) (N := some 24) (B_ 13 255) rfl rfl (by kernel_rfl) (by decide) (fun K hK => ?_); refine goes_ Try.func43 (by kernel_rfl) rfl #[.slice A5 ch.f5.length c5] (by rfl) rfl rfl (by simp only [List.map_toArray, List.map_cons, List.map_nil]; rfl) ?_
  with_reducible refine (slices_Clone_int_int.calls A5 c5 ch.f5 ch.f5 w4 (Kd.C_below HI5.out HS4.out.bel) hl5 HCLN.out).mono ?_
  rintro e w5 ⟨vc, rfl, hR, hB2⟩; refine ⟨_, rfl, ?_⟩; obtain ⟨Av, cv, rfl⟩ := Kd.R_slice hR; have HS5 := A_ (HS4.out.below hB2); have HR5 := A_ (Kd.R_lower hR HS4.out.bel.size); have HK5 := A_ (HK4.out.trans (KeepBody.grown (grown_of_below hB2 none) (fun r e => by cases e))); have hc0 := cell_of_row _ _ 0 _ 61 (0, 0) HS5.out.var; have hc1 := cell_of_row _ _ 1 _ 61 (0, 0) HS5.out.var; have hc2 := cell_of_row _ _ 2 _ 61 (0, 0) HS5.out.var; have hc3 := cell_of_row _ _ 3 _ 61 (0, 0) HS5.out.var; have hc4 := cell_of_row _ _ 4 _ 61 (0, 0) HS5.out.var; have hc5 := cell_of_row _ _ 5 _ 61 (0, 0) HS5.out.var
  have hf3 : w5.frozen? ⟨b5, 3, none⟩ = false := by simp [World.frozen?, HS5.out.var]
  have hf4 : w5.frozen? ⟨b5, 4, none⟩ = false := by simp [World.frozen?, HS5.out.var]
  have hf5 : w5.frozen? ⟨b5, 5, none⟩ = false := by simp [World.frozen?, HS5.out.var]
  clear hR hB2; refine hK.out _ _ ⟨hc3, hc4, hc5⟩ (fun hHeld => ?_); clear hK K; refine norm_ (a' := ?_) ?_ ?_; rotate_left
  ·show Act.put _ (some 24) _ = _
   simp only [Act.put, sA_, sB_, sC_, i64_w, i32_w]; rfl
  refine last_ (i := 8) (N := none) (B_ 13 511) rfl rfl (by kernel_rfl) (by decide) (fun K hK => ?_); refine skip_ (w1 := ?_) (by rfl) rfl ?_ ?_; rotate_left; (· go_simp; rfl); refine hK.out _ _ ?_; clear hK K; refine p_ 9 26 (B_ 13 1023) ?_; refine last_ (i := 10) (N := none) (B_ 13 2047) rfl rfl (by kernel_rfl) (by decide) (fun K hK => ?_); refine skip_ (w1 := ?_) (by rfl) rfl ?_ ?_; rotate_left; (· go_simp; rfl); refine hK.out _ _ ?_; clear hK K; refine p_ 11 27 (B_ 13 4095) ?_; refine last_ (i := 12) (N := none) (B_ 13 8191) rfl rfl (by kernel_rfl) (by decide) (fun K hK => ?_); refine skip_ (w1 := ?_) (by rfl) rfl ?_ ?_; rotate_left; (· go_simp; rfl); refine hK.out _ _ ?_; clear hK K; refine done_ (by kernel_rfl) ?_; have HS6 := A_ (((HS5.out.set 3 (.int .i64 ch.f4)).set 4 (.int .i64 ch.f3)).set 5 (.slice Av ch.f5.length cv)); have HK6 := A_ (((HK5.out.trans (HS5.out.keep 3 (.int .i64 ch.f4))).trans ((HS5.out.set 3 (.int .i64 ch.f4)).keep 4 (.int .i64 ch.f3))).trans (((HS5.out.set 3 (.int .i64 ch.f4)).set 4 (.int .i64 ch.f3)).keep 5 (.slice Av ch.f5.length cv))); have HR6 := A_ (Kd.R_set (Kd.R_set (Kd.R_set HR5.out HS5.out.var (by decide) 3 (.int .i64 ch.f4)) (HS5.out.set 3 (.int .i64 ch.f4)).var (by decide) 4 (.int .i64 ch.f3)) ((HS5.out.set 3 (.int .i64 ch.f4)).set 4 (.int .i64 ch.f3)).var (by decide) 5 (.slice Av ch.f5.length cv)); have HT := A_ (show turnC ch = ⟨ch.f0, ch.f1, ch.f2, ch.f4, ch.f3, ch.f5⟩ by unfold turnC turnF; simp [f1, f2]); rw [HT.out] at HSN; obtain ⟨W6, hW6⟩ : ∃ W6, W6 = ((w5.setCell ⟨b5, 3, none⟩ (.int .i64 ch.f4)).setCell ⟨b5, 4, none⟩ (.int .i64 ch.f3)).setCell ⟨b5, 5, none⟩ (.slice Av ch.f5.length cv) := ⟨_, rfl⟩; rw [← hW6] at HS6 HK6 HR6 ⊢; clear hW6 HS5 HK5 HR5 HT hc0 hc1 hc2 hc3 hc4 hc5 hf3 hf4 hf5; have HMP := A_ (M_ne (k61_mkM W6 w.heap.size (fun _ => True) (⟨ch.f0, ch.f1, ch.f2, ch.f4, ch.f3, ch.f5⟩ : S61) HR6.out) HS6.out.row); have HEND := A_ (turn_end (t := ⟨ch.f0, ch.f1, ch.f2, ch.f4, ch.f3, ch.f5⟩) [.int .i64 ch.f0, .int .i64 ch.f1, .int .i64 ch.f2, .int .i64 ch.f4, .int .i64 ch.f3, .slice Av ch.f5.length cv] HS6.out HK6.out); obtain ⟨A2, c2, ev⟩ := Kd.R_slice HS6.out.row; obtain ⟨nv, hnv⟩ : ∃ nv, nv = ys.length := ⟨_, rfl⟩; rw [← hnv] at ev; subst ev; clear hnv; have hc0 := cell_of_row _ _ 0 _ 61 (0, 0) HS6.out.var; have hc1 := cell_of_row _ _ 1 _ 61 (0, 0) HS6.out.var; have hc2 := cell_of_row _ _ 2 _ 61 (0, 0) HS6.out.var; have hc3 := cell_of_row _ _ 3 _ 61 (0, 0) HS6.out.var; have hc4 := cell_of_row _ _ 4 _ 61 (0, 0) HS6.out.var; have hc5 := cell_of_row _ _ 5 _ 61 (0, 0) HS6.out.var; have hcb := cell_of_row _ _ 0 _ 30 (0, 0) HS6.out.box; have hu61 := Try.underlying61
  gi_wp2_with ((gi_at_builtin; refine R_append_in k61 (W := W6) w.heap.size rfl (.tmp 28) (.tmp 30) 30 61 (.agg #[(.int .i64 0), (.int .i64 0), (.int .i64 0), (.int .i64 0), (.int .i64 0), (.slice none 0 0)]) 64 rfl Try.underlying30 info61 rfl (by decide) (by omega) (.slice A2 nv c2) ys (⟨ch.f0, ch.f1, ch.f2, ch.f4, ch.f3, ch.f5⟩ : S61) [.int .i64 ch.f0, .int .i64 ch.f1, .int .i64 ch.f2, .int .i64 ch.f4, .int .i64 ch.f3, .slice Av ch.f5.length cv] (fun _ => True) (fun k_ => True ∧ some k_ ≠ (.slice A2 nv c2 : Value).ownBlock) rfl rfl HMP.out (fun _ hk => hk) (fun _ _ => trivial) HS6.out.row HS6.out.bel.size HLX.out ?_; intro v1 w1 hr1 hg1 hv1; obtain ⟨A1, c1', e1⟩ := hv1; obtain ⟨n1, hn1⟩ : ∃ n1, n1 = ys.length + 1 := ⟨_, rfl⟩; rw [← hn1] at e1; subst e1; clear hn1; have HE := HEND.out _ w1 hr1 hg1; obtain ⟨hbx1, hE2⟩ := HE; have HE2 := A_ hE2; have hcb1 := cell_of_row _ _ 0 _ 30 (0, 0) hbx1; have hfb1 : w1.frozen? ⟨w.heap.size, 0, none⟩ = false := (by simp [World.frozen?, hbx1]); clear hbx1 hE2 hr1 hg1))
  obtain ⟨hk9, v9, q1, q2, q3, q4⟩ := HE2.out; exact ⟨hk9, v9, q1, by rw [HSN.out]; exact q2, q3, q4⟩
 case done =>
  rintro D ys W hD hys ⟨v', hb, hr, hB, hl⟩ hDD
  have e : ys.map (fun x => turnC x.2.1) = turnR xs := by
   unfold turnR; rw [← hys, List.map_map]; rfl
  rw [e] at hr; have hcb := cell_of_row _ _ 0 _ 30 (0, 0) hb; have HM := A_ (show Marked w.heap.size [D] W from (Marked.nil _ _).cons (by omega) hDD (by simp)); have HRR := A_ hr; have HBB := A_ hB; clear hb hr hB hl hDD hys e; go_wp2; exact turn_leave w _ _ [D] _ v' rfl HM.out HRR.out HBB.out
def diff_Turn.f (l0 : List S61) : Option (List S61) := if l0.length ≤ 1000000 ∧ ∀ x ∈ l0, x.f5.length ≤ 1000000 then some (turnR l0) else none
theorem diff_Turn.calls (A0 : Option Addr) (c0 : Nat) (l0 : List S61) (r : List S61) (w : World) (hr0 : Kd.C k61 w A0 l0.length l0) (hc0 : l0.length ≤ c0) (h : diff_Turn.f l0 = some r) :
  Calls Try.prog 20 #[.slice A0 l0.length c0] w fun e w' => ∃ v0_ : Value, e = .returned (v0_) ∧ Kd.N k61 61 w' w.heap.size (fun k_ => w.heap.size ≤ k_) v0_ r ∧ Below w.heap.size w w' := by
 unfold diff_Turn.f at h
 split at h
 ·next hs =>
  obtain rfl := Option.some.inj h; refine (turn_in A0 c0 l0 w hr0 hc0 hs.1 hs.2).mono ?_; rintro e w' ⟨v, rfl, hv, hb⟩; exact ⟨v, rfl, Kd.N_mono (Kd.R_N (Kd.R_bound hv)) (fun k hk => hk.2.1), hb⟩
 ·cases h
end Go.Proofs.Ytcgpemefmakjiaa.PX
namespace Go.Proofs.Ytcgpemefmakjiaa.PX
open Go.RowKit Go.Proofs.YtcgpemefmakjiaaW.PrintWords Go.Proofs.YtcgpemefmakjiaaW.PrintLast Go.Proofs.YtcgpemefmakjiaaW.PrintMore
attribute [local go_sem] max2_int min2_int max_two min_two max_three min_three max_four min_four   -- for this text's walks alone
mutual
def dioramalaw36_DiffApplies.l0 : Nat → List (List (S76)) → List (List (List (List Int))) → Int → Option (Bool)
 | 0, _, _, _ => none
 | k + 1, x21, x22, x23 => if x23 < (x21.length : Int) then (dioramalaw36_DiffApplies.l1 k x21 x22 x23 0) else ((dioramalaw36_lives.f).bind fun t572 => (some t572))
def dioramalaw36_DiffApplies.l1 : Nat → List (List (S76)) → List (List (List (List Int))) → Int → Int → Option (Bool)
 | 0, _, _, _, _ => none
 | k + 1, x21, x22, x23, x24 => if x24 < (x22.length : Int) then (if 0 ≤ x24 then (if 0 ≤ x23 then (if x23 < (x21.length : Int) then ((dioramalaw36_own.f k (rd_L7 x21 x23)).bind fun t575 => ((diff_Apply.f (rd_L3 x22 x24) t575).bind fun bt578 => ((dioramaref36_Apply.f (rd_L3 x22 x24) (rd_L7 x21 x23)).bind fun bt584 => (if bt578.2 = bt584.2 then ((dioramaref36_SameWorld.f k bt578.1 bt584.1).bind fun t588 => (if t588 = true then (dioramalaw36_DiffApplies.l1 k x21 x22 x23 (wrap64 (x24 + 1))) else (some false))) else (some false))))) else (none)) else (none)) else (none)) else (if 0 ≤ x23 then (if x23 < (x21.length : Int) then ((dioramalaw36_own.f k (rd_L7 x21 x23)).bind fun t590 => ((diff_Turn.f t590).bind fun t593 => ((dioramalaw36_plain.f k t593).bind fun t596 => ((dioramaref36_Turn.f k (rd_L7 x21 x23)).bind fun t600 => ((dioramaref36_SameAll.f k t596 t600).bind fun t603 => (if t603 = true then ((dioramalaw36_own.f k (rd_L7 x21 x23)).bind fun t605 => ((diff_Encode.f k t605).bind fun t608 => ((dioramaref36_Encode.f k (rd_L7 x21 x23)).bind fun t612 => ((dioramaref01_Same.f k t608 t612).bind fun t615 => (if t615 = true then (dioramalaw36_DiffApplies.l0 k x21 x22 (wrap64 (x23 + 1))) else (some false)))))) else (some false))))))) else (none)) else (none))
end
def dioramalaw36_DiffApplies.f (k : Nat) (l0 : List Int) (l1 : List Int) (l2 : List Int) (a3 : Int) (a4 : Int) (a5 : Int) : Option (Bool) := (dioramaref36_Shape.f k l0).bind fun t534 => ((dioramaref36_World.f k t534 l0).bind fun t537 => ((dioramaref36_World.f k t534 l1).bind fun t540 => ((dioramaref36_Diff.f k t537 t540).bind fun bt543 => ((dioramaref36_Bent.f bt543.1 a3 a4 a5).bind fun t547 => ((dioramaref36_Near.f t537 t534 l2).bind fun t550 => ((dioramaref36_Diff.f k t537 t550).bind fun bt553 => ((dioramaref36_Bent.f t547 a5 (wrap64 (Int.tdiv a4 9)) a3).bind fun t557 => ((dioramaref36_Turn.f k bt543.1).bind fun t560 => ((dioramalaw36_odd.f t537 a3 a4 a5).bind fun t566 => (dioramalaw36_DiffApplies.l0 k (([bt543.1, t547, t557, t560, bt553.1, []] : List (List (S76)))) (([t537, t540, t566] : List (List (List (List Int))))) 0))))))))))
def dioramalaw36_DiffApplies.T15 : Bool × List (List Nat × List Nat) := (true, [([], []), ([], []), ([0, 1], [0, 1]), ([2], [2]), ([], []), ([], []), ([4, 5], [4, 5]), ([6], [6]), ([7], [7]), ([3, 8, 8], [3, 8]), ([9], [9]), ([10], [10]), ([10], [10]), ([11, 9, 0, 1, 2, 3, 4, 5, 6, 7, 8, 9, 10, 11], [11]), ([12, 13, 0, 1, 2, 3, 4, 5, 6, 7, 8, 9, 10, 11, 12, 13], [12])])
def dioramalaw36_DiffApplies.B15 : List Nat := [0, 0, 3, 7, 0, 0, 48, 112, 240, 511, 1023, 2047, 2047, 4095, 16383]
theorem dioramalaw36_DiffApplies.tab15 : rtab .any (opsOf Try.f6 15) = dioramalaw36_DiffApplies.T15 := by kernel_rfl
theorem dioramalaw36_DiffApplies.bits15 : waitsOk dioramalaw36_DiffApplies.T15.2 dioramalaw36_DiffApplies.B15 = true := by kernel_rfl
def dioramalaw36_DiffApplies.T16 : Bool × List (List Nat × List Nat) := (true, [([], []), ([], []), ([0, 1], [0, 1]), ([2], [2]), ([], []), ([], []), ([4, 5], [4, 5]), ([6], [6]), ([3, 7], [3, 7]), ([8], [8]), ([9], [9]), ([9], [9]), ([10, 8, 0, 1, 2, 3, 4, 5, 6, 7, 8, 9, 10], [10]), ([11, 12, 0, 1, 2, 3, 4, 5, 6, 7, 8, 9, 10, 11, 12], [11])])
def dioramalaw36_DiffApplies.B16 : List Nat := [0, 0, 3, 7, 0, 0, 48, 112, 255, 511, 1023, 1023, 2047, 8191]
theorem dioramalaw36_DiffApplies.tab16 : rtab .any (opsOf Try.f6 16) = dioramalaw36_DiffApplies.T16 := by kernel_rfl
theorem dioramalaw36_DiffApplies.bits16 : waitsOk dioramalaw36_DiffApplies.T16.2 dioramalaw36_DiffApplies.B16 = true := by kernel_rfl
def dioramalaw36_DiffApplies.T19 : Bool × List (List Nat × List Nat) := (true, [([], []), ([], []), ([0, 1], [0, 1]), ([2], [2]), ([3], [3]), ([4, 4], [4]), ([5, 5], [5]), ([], []), ([], []), ([7, 8], [7, 8]), ([9], [9]), ([10, 6], [10]), ([6, 11, 11], [6, 11]), ([12], [12]), ([13, 12], [13]), ([14], [14]), ([14], [14]), ([15, 16, 14], [14, 15, 16]), ([17, 14], [14, 17]), ([18, 14, 14], [14, 18]), ([19, 19, 14], [14, 19]), ([14], [14]), ([14], [14]), ([21, 22, 14], [14, 21, 22]), ([23, 14], [14, 23]), ([24, 20, 14], [14, 24]), ([20, 25, 25, 14], [14, 20, 25]), ([26, 14], [14, 26]), ([14, 27], [14, 27])])
def dioramalaw36_DiffApplies.B19 : List Nat := [0, 0, 3, 7, 15, 31, 63, 0, 0, 384, 896, 2047, 4095, 8191, 16383, 32767, 32767, 131071, 262143, 524287, 1048575, 32767, 32767, 6324223, 14712831, 33554431, 67108863, 134217727, 268435455]
theorem dioramalaw36_DiffApplies.tab19 : rtab .any (opsOf Try.f6 19) = dioramalaw36_DiffApplies.T19 := by kernel_rfl
theorem dioramalaw36_DiffApplies.bits19 : waitsOk dioramalaw36_DiffApplies.T19.2 dioramalaw36_DiffApplies.B19 = true := by kernel_rfl
set_option maxHeartbeats 8000000 in
set_option maxRecDepth 100000 in
theorem dioramalaw36_DiffApplies.calls (k : Nat) (A0 : Option Addr) (c0 : Nat) (l0 : List Int) (A1 : Option Addr) (c1 : Nat) (l1 : List Int) (A2 : Option Addr) (c2 : Nat) (l2 : List Int) (a3 : Int) (a4 : Int) (a5 : Int) (r : Bool) (w : World) (hr0 : Kd.C (Kd.int .i64) w A0 l0.length l0) (hc0 : l0.length ≤ c0) (hr1 : Kd.C (Kd.int .i64) w A1 l1.length l1) (hc1 : l1.length ≤ c1) (hr2 : Kd.C (Kd.int .i64) w A2 l2.length l2) (hc2 : l2.length ≤ c2) (h : dioramalaw36_DiffApplies.f k l0 l1 l2 a3 a4 a5 = some r) (hT_ : r = true) :
  Calls Try.prog 6 #[.slice A0 l0.length c0, .slice A1 l1.length c1, .slice A2 l2.length c2, .int .i64 a3, .int .i64 a4, .int .i64 a5] w fun e w' => e = .returned (.bool r) ∧ Below w.heap.size w w' := by
 have HT9_ := A_ hT_; clear hT_; have HR0 := A_ hr0; have HC0 := A_ hc0; clear hr0 hc0; have HR1 := A_ hr1; have HC1 := A_ hc1; clear hr1 hc1; have HR2 := A_ hr2; have HC2 := A_ hc2; clear hr2 hc2; have HB := A_ (Below.refl w.heap.size w); have H : ((dioramaref36_Shape.f k l0).bind fun t534 => ((dioramaref36_World.f k t534 l0).bind fun t537 => ((dioramaref36_World.f k t534 l1).bind fun t540 => ((dioramaref36_Diff.f k t537 t540).bind fun bt543 => ((dioramaref36_Bent.f bt543.1 a3 a4 a5).bind fun t547 => ((dioramaref36_Near.f t537 t534 l2).bind fun t550 => ((dioramaref36_Diff.f k t537 t550).bind fun bt553 => ((dioramaref36_Bent.f t547 a5 (wrap64 (Int.tdiv a4 9)) a3).bind fun t557 => ((dioramaref36_Turn.f k bt543.1).bind fun t560 => ((dioramalaw36_odd.f t537 a3 a4 a5).bind fun t566 => (dioramalaw36_DiffApplies.l0 k (([bt543.1, t547, t557, t560, bt553.1, []] : List (List (S76)))) (([t537, t540, t566] : List (List (List (List Int))))) 0))))))))))) = some r := h; clear h; replace H := Option.bind_eq_some_iff.mp H; obtain ⟨t534, A70, H⟩ := H
 (try dsimp only at H)
 have A7 := A_ A70; clear A70; replace H := Option.bind_eq_some_iff.mp H; obtain ⟨t537, A80, H⟩ := H
 (try dsimp only at H)
 have A8 := A_ A80; clear A80; replace H := Option.bind_eq_some_iff.mp H; obtain ⟨t540, A90, H⟩ := H
 (try dsimp only at H)
 have A9 := A_ A90; clear A90; replace H := Option.bind_eq_some_iff.mp H; obtain ⟨⟨t543, t546⟩, A100, H⟩ := H
 (try dsimp only at H)
 have A10 := A_ A100; clear A100; replace H := Option.bind_eq_some_iff.mp H; obtain ⟨t547, A110, H⟩ := H
 (try dsimp only at H)
 have A11 := A_ A110; clear A110; replace H := Option.bind_eq_some_iff.mp H; obtain ⟨t550, A120, H⟩ := H
 (try dsimp only at H)
 have A12 := A_ A120; clear A120; replace H := Option.bind_eq_some_iff.mp H; obtain ⟨⟨t553, t556⟩, A130, H⟩ := H
 (try dsimp only at H)
 have A13 := A_ A130; clear A130; replace H := Option.bind_eq_some_iff.mp H; obtain ⟨t557, A140, H⟩ := H
 (try dsimp only at H)
 have A14 := A_ A140; clear A140; replace H := Option.bind_eq_some_iff.mp H; obtain ⟨t560, A150, H⟩ := H
 (try dsimp only at H)
 have A15 := A_ A150; clear A150; obtain ⟨y563, hy563⟩ : ∃ y_ : List (List (S76)), y_ = (([t543, t547, t557, t560, t553, []] : List (List (S76)))) := ⟨_, rfl⟩; replace H : ((dioramalaw36_odd.f t537 a3 a4 a5).bind fun t566 => (dioramalaw36_DiffApplies.l0 k y563 (([t537, t540, t566] : List (List (List (List Int))))) 0)) = some r := rh_ hy563 H; have Ny563 := A_ hy563; clear hy563; replace H := Option.bind_eq_some_iff.mp H; obtain ⟨t566, A160, H⟩ := H
 (try dsimp only at H)
 have A16 := A_ A160; clear A160; obtain ⟨y569, hy569⟩ : ∃ y_ : List (List (List (List Int))), y_ = (([t537, t540, t566] : List (List (List (List Int))))) := ⟨_, rfl⟩; replace H : (dioramalaw36_DiffApplies.l0 k y563 y569 0) = some r := rh_ hy569 H; have Ny569 := A_ hy569; clear hy569; have H' := A_ H; clear H
 go_enter Try.func6, Try.ntmps6
 go_wp2_with (first | ((with_reducible refine gate_callee (f := 10) rfl ?_); refine goesL_ (some 30) rfl rfl Try.func10 (by kernel_rfl) rfl #[.slice A0 l0.length c0] rfl lm_ ?_; (with_reducible refine (dioramaref36_Shape.calls k _ _ l0 t534 _ ?side1 ?side2 A7.out).mono ?_); (case side1 => repeat (first | exact HR0.out | (with_reducible refine Kd.C_alloc ?_ _) | (with_reducible refine Kd.C_drewN ?_ _) | (with_reducible refine Kd.C_drew ?_))); (case side2 => exact HC0.out); rintro e w17 ⟨v535, rfl, ho0, hb⟩; refine ⟨_, rfl, ?_⟩; have HO536 := A_ (Kd.R_lower ho0 (below_size (bx_ HB))); replace HB := A_ (below_step (bx_ HB) hb); (try clear hb); (try clear hb2); (try clear hk); (try clear hi); (try clear ho0); obtain ⟨Ao18, co18, eo18⟩ := Kd.R_slice HO536.out; subst eo18) | ((with_reducible refine gate_callee (f := 11) rfl ?_); refine goesL_ (some 33) rfl rfl Try.func11 (by kernel_rfl) rfl #[.slice Ao18 t534.length co18, .slice A0 l0.length c0] rfl lm_ ?_; (with_reducible refine (dioramaref36_World.calls k _ _ t534 _ _ l0 t537 _ ?side1 ?side2 ?side3 ?side4 A8.out).mono ?_); (case side1 => repeat (first | exact (Kd.R_reads' HO536.out).2.2 | (with_reducible refine Kd.C_alloc ?_ _) | (with_reducible refine Kd.C_drewN ?_ _) | (with_reducible refine Kd.C_drew ?_))); (case side2 => exact (Kd.R_reads' HO536.out).2.1); (case side3 => repeat (first | exact (Kd.C_below HR0.out HB.out) | (with_reducible refine Kd.C_alloc ?_ _) | (with_reducible refine Kd.C_drewN ?_ _) | (with_reducible refine Kd.C_drew ?_))); (case side4 => exact HC0.out); rintro e w19 ⟨v538, rfl, ho0, hb⟩; refine ⟨_, rfl, ?_⟩; have HO539 := A_ (Kd.N_lower (Kd.N_mono (ok' := fun k_ => some k_ ≠ (.slice Ao18 t534.length co18 : Value).ownBlock) (Kd.R_N (Kd.R_bound ho0)) (fun k_ hk_ => (Kd.fresh' (Kd.R_lt (rx_ HO536)) k_ hk_.2.1))) (below_size (bx_ HB))); replace HO536 := A_ (Kd.R_below (rx_ HO536) hb); replace HB := A_ (below_step (bx_ HB) hb); (try clear hb); (try clear hb2); (try clear hk); (try clear hi); (try clear ho0)) | ((with_reducible refine gate_callee (f := 11) rfl ?_); refine goesL_ (some 36) rfl rfl Try.func11 (by kernel_rfl) rfl #[.slice Ao18 t534.length co18, .slice A1 l1.length c1] rfl lm_ ?_; (with_reducible refine (dioramaref36_World.calls k _ _ t534 _ _ l1 t540 _ ?side1 ?side2 ?side3 ?side4 A9.out).mono ?_); (case side1 => repeat (first | exact (Kd.R_reads' HO536.out).2.2 | (with_reducible refine Kd.C_alloc ?_ _) | (with_reducible refine Kd.C_drewN ?_ _) | (with_reducible refine Kd.C_drew ?_))); (case side2 => exact (Kd.R_reads' HO536.out).2.1); (case side3 => repeat (first | exact (Kd.C_below HR1.out HB.out) | (with_reducible refine Kd.C_alloc ?_ _) | (with_reducible refine Kd.C_drewN ?_ _) | (with_reducible refine Kd.C_drew ?_))); (case side4 => exact HC1.out); rintro e w20 ⟨v541, rfl, ho0, hb⟩; refine ⟨_, rfl, ?_⟩; have HO542 := A_ (Kd.N_lower (Kd.N_mono (ok' := fun k_ => some k_ ≠ (.slice Ao18 t534.length co18 : Value).ownBlock ∧ some k_ ≠ (v538 : Value).ownBlock) (Kd.R_N (Kd.R_bound ho0)) (fun k_ hk_ => ⟨(Kd.fresh' (Kd.R_lt (rx_ HO536)) k_ hk_.2.1), (Kd.fresh' (Kd.N_lt (nx_ HO539)) k_ hk_.2.1)⟩)) (below_size (bx_ HB))); replace HO536 := A_ (Kd.R_below (rx_ HO536) hb); replace HO539 := A_ (Kd.N_elder' (nx_ HO539) (ba_ ho0) hb); replace HB := A_ (below_step (bx_ HB) hb); (try clear hb); (try clear hb2); (try clear hk); (try clear hi); (try clear ho0); obtain ⟨Ao21, co21, eo21⟩ := Kd.N_slice HO539.out; subst eo21; obtain ⟨Ao22, co22, eo22⟩ := Kd.N_slice HO542.out; subst eo22) | ((with_reducible refine gate_callee (f := 15) rfl ?_); refine goesL_ (some 40) rfl rfl Try.func15 (by kernel_rfl) rfl #[.slice Ao21 t537.length co21, .slice Ao22 t540.length co22] rfl lm_ ?_; (with_reducible refine (dioramaref36_Diff.calls k (fun k_ => (some k_ ≠ (.slice Ao18 t534.length co18 : Value).ownBlock ∧ some k_ ≠ (.slice Ao22 t540.length co22 : Value).ownBlock)) _ _ t537 (fun k_ => (some k_ ≠ (.slice Ao18 t534.length co18 : Value).ownBlock ∧ some k_ ≠ (.slice Ao21 t537.length co21 : Value).ownBlock)) _ _ t540 t543 t546 _ ?side1 ?side2 A10.out).mono ?_); (case side1 => exact Kd.N_V (HO539.out)); (case side2 => exact Kd.N_V (HO542.out)); rintro e w23 ⟨v544, rfl, ho0, hb⟩; refine ⟨_, rfl, ?_⟩; replace HO539 := A_ (Kd.N_elder' (nx_ HO539) (ba_ ho0) hb); replace HO542 := A_ (Kd.N_elder' (nx_ HO542) (ba_ ho0) hb); have HO545 := A_ (Kd.N_lower (Kd.N_mono (ok' := fun k_ => some k_ ≠ (.slice Ao18 t534.length co18 : Value).ownBlock) ho0 (fun k_ hk_ => Or.elim hk_ (fun hs_ => Or.elim hs_ (fun hs_ => hs_.1) (fun hs_ => hs_.1)) (fun hn_ => (Kd.fresh' (Kd.R_lt (rx_ HO536)) k_ hn_)))) (below_size (bx_ HB))); replace HO536 := A_ (Kd.R_below (rx_ HO536) hb); replace HB := A_ (below_step (bx_ HB) hb); (try clear hb); (try clear hb2); (try clear hk); (try clear hi); (try clear ho0); obtain ⟨Ao24, co24, eo24⟩ := Kd.N_slice HO545.out; subst eo24) | ((with_reducible refine gate_callee (f := 23) rfl ?_); refine goesL_ (some 47) rfl rfl Try.func23 (by kernel_rfl) rfl #[.slice Ao24 t543.length co24, .int .i64 a3, .int .i64 a4, .int .i64 a5] rfl lm_ ?_; (with_reducible refine (dioramaref36_Bent.calls (fun k_ => some k_ ≠ (.slice Ao18 t534.length co18 : Value).ownBlock) _ _ t543 a3 a4 a5 t547 _ ?side1 A11.out).mono ?_); (case side1 => exact Kd.N_V (HO545.out)); rintro e w25 ⟨v548, rfl, ho0, hb⟩; refine ⟨_, rfl, ?_⟩; replace HO539 := A_ (Kd.N_elder' (nx_ HO539) (ba_ ho0) hb); replace HO542 := A_ (Kd.N_elder' (nx_ HO542) (ba_ ho0) hb); replace HO545 := A_ (Kd.N_elder' (nx_ HO545) (ba_ ho0) hb); have HO549 := A_ (Kd.N_lower (Kd.N_mono (ok' := fun k_ => some k_ ≠ (.slice Ao18 t534.length co18 : Value).ownBlock) ho0 (fun k_ hk_ => Or.elim hk_ (fun hs_ => hs_) (fun hn_ => (Kd.fresh' (Kd.R_lt (rx_ HO536)) k_ hn_)))) (below_size (bx_ HB))); replace HO536 := A_ (Kd.R_below (rx_ HO536) hb); replace HB := A_ (below_step (bx_ HB) hb); (try clear hb); (try clear hb2); (try clear hk); (try clear hi); (try clear ho0)) | ((with_reducible refine gate_callee (f := 12) rfl ?_); refine goesL_ (some 53) rfl rfl Try.func12 (by kernel_rfl) rfl #[.slice Ao21 t537.length co21, .slice Ao18 t534.length co18, .slice A2 l2.length c2] rfl lm_ ?_; (with_reducible refine (dioramaref36_Near.calls _ _ t537 _ _ t534 _ _ l2 t550 _ ?side1 ?side2 ?side3 ?side4 ?side5 ?side6 A12.out).mono ?_); (case side1 => repeat (first | exact (Kd.N_reads' HO539.out).2.2 | (with_reducible refine Kd.C_alloc ?_ _) | (with_reducible refine Kd.C_drewN ?_ _) | (with_reducible refine Kd.C_drew ?_))); (case side2 => exact (Kd.N_reads' HO539.out).2.1); (case side3 => repeat (first | exact (Kd.R_reads' HO536.out).2.2 | (with_reducible refine Kd.C_alloc ?_ _) | (with_reducible refine Kd.C_drewN ?_ _) | (with_reducible refine Kd.C_drew ?_))); (case side4 => exact (Kd.R_reads' HO536.out).2.1); (case side5 => repeat (first | exact (Kd.C_below HR2.out HB.out) | (with_reducible refine Kd.C_alloc ?_ _) | (with_reducible refine Kd.C_drewN ?_ _) | (with_reducible refine Kd.C_drew ?_))); (case side6 => exact HC2.out); rintro e w26 ⟨v551, rfl, ho0, hb⟩; refine ⟨_, rfl, ?_⟩; have HO552 := A_ (Kd.N_lower (Kd.N_mono (ok' := fun k_ => some k_ ≠ (.slice Ao18 t534.length co18 : Value).ownBlock ∧ some k_ ≠ (.slice Ao21 t537.length co21 : Value).ownBlock ∧ some k_ ≠ (.slice Ao22 t540.length co22 : Value).ownBlock ∧ some k_ ≠ (.slice Ao24 t543.length co24 : Value).ownBlock ∧ some k_ ≠ (v548 : Value).ownBlock) (Kd.R_N (Kd.R_bound ho0)) (fun k_ hk_ => ⟨(Kd.fresh' (Kd.R_lt (rx_ HO536)) k_ hk_.2.1), (Kd.fresh' (Kd.N_lt (nx_ HO539)) k_ hk_.2.1), (Kd.fresh' (Kd.N_lt (nx_ HO542)) k_ hk_.2.1), (Kd.fresh' (Kd.N_lt (nx_ HO545)) k_ hk_.2.1), (Kd.fresh' (Kd.N_lt (nx_ HO549)) k_ hk_.2.1)⟩)) (below_size (bx_ HB))); replace HO536 := A_ (Kd.R_below (rx_ HO536) hb); replace HO539 := A_ (Kd.N_elder' (nx_ HO539) (ba_ ho0) hb); replace HO542 := A_ (Kd.N_elder' (nx_ HO542) (ba_ ho0) hb); replace HO545 := A_ (Kd.N_elder' (nx_ HO545) (ba_ ho0) hb); replace HO549 := A_ (Kd.N_elder' (nx_ HO549) (ba_ ho0) hb); replace HB := A_ (below_step (bx_ HB) hb); (try clear hb); (try clear hb2); (try clear hk); (try clear hi); (try clear ho0); obtain ⟨Ao27, co27, eo27⟩ := Kd.N_slice HO552.out; subst eo27) | ((with_reducible refine gate_callee (f := 15) rfl ?_); refine goesL_ (some 54) rfl rfl Try.func15 (by kernel_rfl) rfl #[.slice Ao21 t537.length co21, .slice Ao27 t550.length co27] rfl lm_ ?_; (with_reducible refine (dioramaref36_Diff.calls k (fun k_ => ((((some k_ ≠ (.slice Ao18 t534.length co18 : Value).ownBlock ∧ some k_ ≠ (.slice Ao22 t540.length co22 : Value).ownBlock) ∧ some k_ ≠ (.slice Ao24 t543.length co24 : Value).ownBlock) ∧ some k_ ≠ (v548 : Value).ownBlock) ∧ some k_ ≠ (.slice Ao27 t550.length co27 : Value).ownBlock)) _ _ t537 (fun k_ => (some k_ ≠ (.slice Ao18 t534.length co18 : Value).ownBlock ∧ (some k_ ≠ (.slice Ao21 t537.length co21 : Value).ownBlock ∧ (some k_ ≠ (.slice Ao22 t540.length co22 : Value).ownBlock ∧ (some k_ ≠ (.slice Ao24 t543.length co24 : Value).ownBlock ∧ some k_ ≠ (v548 : Value).ownBlock))))) _ _ t550 t553 t556 _ ?side1 ?side2 A13.out).mono ?_); (case side1 => exact Kd.N_V (HO539.out)); (case side2 => exact Kd.N_V (HO552.out)); rintro e w28 ⟨v554, rfl, ho0, hb⟩; refine ⟨_, rfl, ?_⟩; replace HO539 := A_ (Kd.N_elder' (nx_ HO539) (ba_ ho0) hb); replace HO552 := A_ (Kd.N_elder' (nx_ HO552) (ba_ ho0) hb); have HO555 := A_ (Kd.N_lower (Kd.N_mono (ok' := fun k_ => some k_ ≠ (.slice Ao18 t534.length co18 : Value).ownBlock ∧ some k_ ≠ (.slice Ao22 t540.length co22 : Value).ownBlock ∧ some k_ ≠ (.slice Ao24 t543.length co24 : Value).ownBlock ∧ some k_ ≠ (v548 : Value).ownBlock) ho0 (fun k_ hk_ => ⟨Or.elim hk_ (fun hs_ => Or.elim hs_ (fun hs_ => hs_.1.1.1.1) (fun hs_ => hs_.1)) (fun hn_ => (Kd.fresh' (Kd.R_lt (rx_ HO536)) k_ hn_)), Or.elim hk_ (fun hs_ => Or.elim hs_ (fun hs_ => hs_.1.1.1.2) (fun hs_ => hs_.2.2.1)) (fun hn_ => (Kd.fresh' (Kd.N_lt (nx_ HO542)) k_ hn_)), Or.elim hk_ (fun hs_ => Or.elim hs_ (fun hs_ => hs_.1.1.2) (fun hs_ => hs_.2.2.2.1)) (fun hn_ => (Kd.fresh' (Kd.N_lt (nx_ HO545)) k_ hn_)), Or.elim hk_ (fun hs_ => Or.elim hs_ (fun hs_ => hs_.1.2) (fun hs_ => hs_.2.2.2.2)) (fun hn_ => (Kd.fresh' (Kd.N_lt (nx_ HO549)) k_ hn_))⟩)) (below_size (bx_ HB))); replace HO536 := A_ (Kd.R_below (rx_ HO536) hb); replace HO542 := A_ (Kd.N_elder' (nx_ HO542) (ba_ ho0) hb); replace HO545 := A_ (Kd.N_elder' (nx_ HO545) (ba_ ho0) hb); replace HO549 := A_ (Kd.N_elder' (nx_ HO549) (ba_ ho0) hb); replace HB := A_ (below_step (bx_ HB) hb); (try clear hb); (try clear hb2); (try clear hk); (try clear hi); (try clear ho0); obtain ⟨Ao29, co29, eo29⟩ := Kd.N_slice HO549.out; subst eo29) | ((with_reducible refine gate_callee (f := 23) rfl ?_); refine goesL_ (some 64) rfl rfl Try.func23 (by kernel_rfl) rfl #[.slice Ao29 t547.length co29, .int .i64 a5, .int .i64 (wrap64 (Int.tdiv a4 9)), .int .i64 a3] rfl lm_ ?_; (with_reducible refine (dioramaref36_Bent.calls (fun k_ => ((some k_ ≠ (.slice Ao18 t534.length co18 : Value).ownBlock ∧ some k_ ≠ (.slice Ao27 t550.length co27 : Value).ownBlock) ∧ some k_ ≠ (v554 : Value).ownBlock)) _ _ t547 a5 (wrap64 (Int.tdiv a4 9)) a3 t557 _ ?side1 A14.out).mono ?_); (case side1 => exact Kd.N_V (HO549.out)); rintro e w30 ⟨v558, rfl, ho0, hb⟩; refine ⟨_, rfl, ?_⟩; replace HO539 := A_ (Kd.N_elder' (nx_ HO539) (ba_ ho0) hb); replace HO542 := A_ (Kd.N_elder' (nx_ HO542) (ba_ ho0) hb); replace HO545 := A_ (Kd.N_elder' (nx_ HO545) (ba_ ho0) hb); replace HO549 := A_ (Kd.N_elder' (nx_ HO549) (ba_ ho0) hb); have HO559 := A_ (Kd.N_lower (Kd.N_mono (ok' := fun k_ => some k_ ≠ (.slice Ao18 t534.length co18 : Value).ownBlock ∧ some k_ ≠ (.slice Ao27 t550.length co27 : Value).ownBlock ∧ some k_ ≠ (v554 : Value).ownBlock) ho0 (fun k_ hk_ => ⟨Or.elim hk_ (fun hs_ => hs_.1.1) (fun hn_ => (Kd.fresh' (Kd.R_lt (rx_ HO536)) k_ hn_)), Or.elim hk_ (fun hs_ => hs_.1.2) (fun hn_ => (Kd.fresh' (Kd.N_lt (nx_ HO552)) k_ hn_)), Or.elim hk_ (fun hs_ => hs_.2) (fun hn_ => (Kd.fresh' (Kd.N_lt (nx_ HO555)) k_ hn_))⟩)) (below_size (bx_ HB))); replace HO536 := A_ (Kd.R_below (rx_ HO536) hb); replace HO552 := A_ (Kd.N_elder' (nx_ HO552) (ba_ ho0) hb); replace HO555 := A_ (Kd.N_elder' (nx_ HO555) (ba_ ho0) hb); replace HB := A_ (below_step (bx_ HB) hb); (try clear hb); (try clear hb2); (try clear hk); (try clear hi); (try clear ho0)) | ((with_reducible refine gate_callee (f := 24) rfl ?_); refine goesL_ (some 66) rfl rfl Try.func24 (by kernel_rfl) rfl #[.slice Ao24 t543.length co24] rfl lm_ ?_; (with_reducible refine (dioramaref36_Turn.calls k (fun k_ => ((((some k_ ≠ (.slice Ao18 t534.length co18 : Value).ownBlock ∧ some k_ ≠ (.slice Ao29 t547.length co29 : Value).ownBlock) ∧ some k_ ≠ (.slice Ao27 t550.length co27 : Value).ownBlock) ∧ some k_ ≠ (v554 : Value).ownBlock) ∧ some k_ ≠ (v558 : Value).ownBlock)) _ _ t543 t560 _ ?side1 A15.out).mono ?_); (case side1 => exact Kd.N_V (HO545.out)); rintro e w31 ⟨v561, rfl, ho0, hb⟩; refine ⟨_, rfl, ?_⟩; replace HO539 := A_ (Kd.N_elder' (nx_ HO539) (ba_ ho0) hb); replace HO542 := A_ (Kd.N_elder' (nx_ HO542) (ba_ ho0) hb); replace HO545 := A_ (Kd.N_elder' (nx_ HO545) (ba_ ho0) hb); have HO562 := A_ (Kd.N_lower (Kd.N_mono (ok' := fun k_ => some k_ ≠ (.slice Ao18 t534.length co18 : Value).ownBlock ∧ some k_ ≠ (.slice Ao29 t547.length co29 : Value).ownBlock ∧ some k_ ≠ (.slice Ao27 t550.length co27 : Value).ownBlock ∧ some k_ ≠ (v554 : Value).ownBlock ∧ some k_ ≠ (v558 : Value).ownBlock) ho0 (fun k_ hk_ => ⟨Or.elim hk_ (fun hs_ => hs_.1.1.1.1) (fun hn_ => (Kd.fresh' (Kd.R_lt (rx_ HO536)) k_ hn_)), Or.elim hk_ (fun hs_ => hs_.1.1.1.2) (fun hn_ => (Kd.fresh' (Kd.N_lt (nx_ HO549)) k_ hn_)), Or.elim hk_ (fun hs_ => hs_.1.1.2) (fun hn_ => (Kd.fresh' (Kd.N_lt (nx_ HO552)) k_ hn_)), Or.elim hk_ (fun hs_ => hs_.1.2) (fun hn_ => (Kd.fresh' (Kd.N_lt (nx_ HO555)) k_ hn_)), Or.elim hk_ (fun hs_ => hs_.2) (fun hn_ => (Kd.fresh' (Kd.N_lt (nx_ HO559)) k_ hn_))⟩)) (below_size (bx_ HB))); replace HO536 := A_ (Kd.R_below (rx_ HO536) hb); replace HO549 := A_ (Kd.N_elder' (nx_ HO549) (ba_ ho0) hb); replace HO552 := A_ (Kd.N_elder' (nx_ HO552) (ba_ ho0) hb); replace HO555 := A_ (Kd.N_elder' (nx_ HO555) (ba_ ho0) hb); replace HO559 := A_ (Kd.N_elder' (nx_ HO559) (ba_ ho0) hb); replace HB := A_ (below_step (bx_ HB) hb); (try clear hb); (try clear hb2); (try clear hk); (try clear hi); (try clear ho0); obtain ⟨Ao32, co32, eo32⟩ := Kd.N_slice HO559.out; subst eo32; obtain ⟨Ao33, co33, eo33⟩ := Kd.N_slice HO562.out; subst eo33; obtain ⟨Ao34, co34, eo34⟩ := Kd.N_slice HO555.out; subst eo34) | ((with_reducible refine gate_dst (N := 68) rfl ?_); refine Kd.N_lit (Kd.slice 76 k76) _ 34 ?hg (N' := 68) ?hd (xs := ([t543, t547, t557, t560, t553, []] : List (List (S76)))) (inner := [.slice Ao24 t543.length co24, .slice Ao29 t547.length co29, .slice Ao32 t557.length co32, .slice Ao33 t560.length co33, .slice Ao34 t553.length co34, .slice none 0 0]) (ok := (fun k_ => some k_ ≠ (.slice Ao18 t534.length co18 : Value).ownBlock)) (okp := (fun k_ => some k_ ≠ (.slice Ao18 t534.length co18 : Value).ownBlock)) ?hr ?hp (fun _ hk => hk) ((show ∀ k_, w31.heap.size ≤ k_ → (fun k_ => some k_ ≠ (.slice Ao18 t534.length co18 : Value).ownBlock) k_ from fun k_ hk => Kd.fresh' (Kd.R_lt (rx_ HO536)) k_ hk) _ (Nat.le_refl _)) (Below.refl _ _) (Nat.le_refl _) (by simp) ?_; (case hd => rfl); (case hg => rfl); (case hr => first | (go_simp; done) | (go_simp; rfl)); (case hp => exact (Reps.one (show Kd.FK (Kd.slice 76 k76) _ _ t543 [.slice Ao24 t543.length co24] from (Kd.FK_slice_mk (Kd.N_reads' (Kd.N_mono (ok' := (fun k_ => some k_ ≠ (.slice Ao18 t534.length co18 : Value).ownBlock)) (HO545.out) (fun k_ hk => hk.1.1.1.1.1))).2.1 (Kd.N_F (Kd.N_mono (ok' := (fun k_ => some k_ ≠ (.slice Ao18 t534.length co18 : Value).ownBlock)) (HO545.out) (fun k_ hk => hk.1.1.1.1.1))))) (Reps.one (show Kd.FK (Kd.slice 76 k76) _ _ t547 [.slice Ao29 t547.length co29] from (Kd.FK_slice_mk (Kd.N_reads' (Kd.N_mono (ok' := (fun k_ => some k_ ≠ (.slice Ao18 t534.length co18 : Value).ownBlock)) (HO549.out) (fun k_ hk => hk.1.1.1.1))).2.1 (Kd.N_F (Kd.N_mono (ok' := (fun k_ => some k_ ≠ (.slice Ao18 t534.length co18 : Value).ownBlock)) (HO549.out) (fun k_ hk => hk.1.1.1.1))))) (Reps.one (show Kd.FK (Kd.slice 76 k76) _ _ t557 [.slice Ao32 t557.length co32] from (Kd.FK_slice_mk (Kd.N_reads' (Kd.N_mono (ok' := (fun k_ => some k_ ≠ (.slice Ao18 t534.length co18 : Value).ownBlock)) (HO559.out) (fun k_ hk => hk.1.1))).2.1 (Kd.N_F (Kd.N_mono (ok' := (fun k_ => some k_ ≠ (.slice Ao18 t534.length co18 : Value).ownBlock)) (HO559.out) (fun k_ hk => hk.1.1))))) (Reps.one (show Kd.FK (Kd.slice 76 k76) _ _ t560 [.slice Ao33 t560.length co33] from (Kd.FK_slice_mk (Kd.N_reads' (Kd.N_mono (ok' := (fun k_ => some k_ ≠ (.slice Ao18 t534.length co18 : Value).ownBlock)) (HO562.out) (fun k_ hk => hk.1))).2.1 (Kd.N_F (Kd.N_mono (ok' := (fun k_ => some k_ ≠ (.slice Ao18 t534.length co18 : Value).ownBlock)) (HO562.out) (fun k_ hk => hk.1))))) (Reps.one (show Kd.FK (Kd.slice 76 k76) _ _ t553 [.slice Ao34 t553.length co34] from (Kd.FK_slice_mk (Kd.N_reads' (Kd.N_mono (ok' := (fun k_ => some k_ ≠ (.slice Ao18 t534.length co18 : Value).ownBlock)) (HO555.out) (fun k_ hk => hk.1.1.1))).2.1 (Kd.N_F (Kd.N_mono (ok' := (fun k_ => some k_ ≠ (.slice Ao18 t534.length co18 : Value).ownBlock)) (HO555.out) (fun k_ hk => hk.1.1.1))))) (Reps.one (show Kd.FK (Kd.slice 76 k76) _ _ [] [.slice none 0 0] from (Kd.FK_slice_mk (Nat.le_refl _) (Kd.F_nil _ _ _))) (Reps.none _ _)))))))); intro v564 w35 ho36 hb hg_ hnew_; clear hg_ hnew_; (first | rw [← Ny563.out] at ho36 | (simp only [Int.reduceToNat] at ho36; rw [← Ny563.out] at ho36)); have n0_ := A_ (Kd.R_below (rx_ HO536) hb); have n1_ := A_ (Kd.N_elder' (nx_ HO539) (Kd.N_base ho36) hb); have n2_ := A_ (Kd.N_elder' (nx_ HO542) (Kd.N_base ho36) hb); have n3_ := A_ (Kd.N_elder' (nx_ HO552) (Kd.N_base ho36) hb); have n4_ := A_ (Kd.N_lower ho36 (below_size (bx_ HB))); have n5_ := A_ (below_step (bx_ HB) hb); clear HO536 HO539 HO542 HO552 HB HO545 HO549 HO555 HO559 HO562; have HO536 := n0_; have HO539 := n1_; have HO542 := n2_; have HO552 := n3_; have HO565 := n4_; have HB := n5_; clear n0_ n1_ n2_ n3_ n4_ n5_; clear hb ho36) | ((with_reducible refine gate_callee (f := 13) rfl ?_); refine goesL_ (some 75) rfl rfl Try.func13 (by kernel_rfl) rfl #[.slice Ao21 t537.length co21, .int .i64 a3, .int .i64 a4, .int .i64 a5] rfl lm_ ?_; (with_reducible refine (dioramalaw36_odd.calls _ _ t537 a3 a4 a5 t566 _ ?side1 ?side2 A16.out).mono ?_); (case side1 => repeat (first | exact (Kd.N_reads' HO539.out).2.2 | (with_reducible refine Kd.C_alloc ?_ _) | (with_reducible refine Kd.C_drewN ?_ _) | (with_reducible refine Kd.C_drew ?_))); (case side2 => exact (Kd.N_reads' HO539.out).2.1); rintro e w37 ⟨v567, rfl, ho0, hb⟩; refine ⟨_, rfl, ?_⟩; have HO568 := A_ (Kd.N_lower (Kd.N_mono (ok' := fun k_ => some k_ ≠ (.slice Ao18 t534.length co18 : Value).ownBlock ∧ some k_ ≠ (.slice Ao21 t537.length co21 : Value).ownBlock ∧ some k_ ≠ (.slice Ao22 t540.length co22 : Value).ownBlock ∧ some k_ ≠ (.slice Ao27 t550.length co27 : Value).ownBlock ∧ some k_ ≠ (v564 : Value).ownBlock) (Kd.R_N (Kd.R_bound ho0)) (fun k_ hk_ => ⟨(Kd.fresh' (Kd.R_lt (rx_ HO536)) k_ hk_.2.1), (Kd.fresh' (Kd.N_lt (nx_ HO539)) k_ hk_.2.1), (Kd.fresh' (Kd.N_lt (nx_ HO542)) k_ hk_.2.1), (Kd.fresh' (Kd.N_lt (nx_ HO552)) k_ hk_.2.1), (Kd.fresh' (Kd.N_lt (nx_ HO565)) k_ hk_.2.1)⟩)) (below_size (bx_ HB))); replace HO536 := A_ (Kd.R_below (rx_ HO536) hb); replace HO539 := A_ (Kd.N_elder' (nx_ HO539) (ba_ ho0) hb); replace HO542 := A_ (Kd.N_elder' (nx_ HO542) (ba_ ho0) hb); replace HO552 := A_ (Kd.N_elder' (nx_ HO552) (ba_ ho0) hb); replace HO565 := A_ (Kd.N_elder' (nx_ HO565) (ba_ ho0) hb); replace HB := A_ (below_step (bx_ HB) hb); (try clear hb); (try clear hb2); (try clear hk); (try clear hi); (try clear ho0); obtain ⟨Ao38, co38, eo38⟩ := Kd.N_slice HO568.out; subst eo38) | ((with_reducible refine gate_dst (N := 76) rfl ?_); refine Kd.N_lit (Kd.slice 64 (Kd.slice 22 (Kd.slice 3 (Kd.int .i64)))) _ 25 ?hg (N' := 76) ?hd (xs := ([t537, t540, t566] : List (List (List (List Int))))) (inner := [.slice Ao21 t537.length co21, .slice Ao22 t540.length co22, .slice Ao38 t566.length co38]) (ok := (fun k_ => some k_ ≠ (.slice Ao18 t534.length co18 : Value).ownBlock ∧ some k_ ≠ (.slice Ao27 t550.length co27 : Value).ownBlock ∧ some k_ ≠ (v564 : Value).ownBlock)) (okp := (fun k_ => some k_ ≠ (.slice Ao18 t534.length co18 : Value).ownBlock ∧ some k_ ≠ (.slice Ao27 t550.length co27 : Value).ownBlock ∧ some k_ ≠ (v564 : Value).ownBlock)) ?hr ?hp (fun _ hk => hk) ((show ∀ k_, w37.heap.size ≤ k_ → (fun k_ => some k_ ≠ (.slice Ao18 t534.length co18 : Value).ownBlock ∧ some k_ ≠ (.slice Ao27 t550.length co27 : Value).ownBlock ∧ some k_ ≠ (v564 : Value).ownBlock) k_ from fun k_ hk => ⟨Kd.fresh' (Kd.R_lt (rx_ HO536)) k_ hk, Kd.fresh' (Kd.N_lt (nx_ HO552)) k_ hk, Kd.fresh' (Kd.N_lt (nx_ HO565)) k_ hk⟩) _ (Nat.le_refl _)) (Below.refl _ _) (Nat.le_refl _) (by simp) ?_; (case hd => rfl); (case hg => rfl); (case hr => first | (go_simp; done) | (go_simp; rfl)); (case hp => exact (Reps.one (show Kd.FK (Kd.slice 64 (Kd.slice 22 (Kd.slice 3 (Kd.int .i64)))) _ _ t537 [.slice Ao21 t537.length co21] from (Kd.FK_slice_mk (Kd.N_reads' (Kd.N_mono (ok' := (fun k_ => some k_ ≠ (.slice Ao18 t534.length co18 : Value).ownBlock ∧ some k_ ≠ (.slice Ao27 t550.length co27 : Value).ownBlock ∧ some k_ ≠ (v564 : Value).ownBlock)) (HO539.out) (fun k_ hk => ⟨hk.1.1.1.1.1.1.1.1.1, ⟨hk.1.1.1.1.1.2, hk.1.2⟩⟩))).2.1 (Kd.N_F (Kd.N_mono (ok' := (fun k_ => some k_ ≠ (.slice Ao18 t534.length co18 : Value).ownBlock ∧ some k_ ≠ (.slice Ao27 t550.length co27 : Value).ownBlock ∧ some k_ ≠ (v564 : Value).ownBlock)) (HO539.out) (fun k_ hk => ⟨hk.1.1.1.1.1.1.1.1.1, ⟨hk.1.1.1.1.1.2, hk.1.2⟩⟩))))) (Reps.one (show Kd.FK (Kd.slice 64 (Kd.slice 22 (Kd.slice 3 (Kd.int .i64)))) _ _ t540 [.slice Ao22 t540.length co22] from (Kd.FK_slice_mk (Kd.N_reads' (Kd.N_mono (ok' := (fun k_ => some k_ ≠ (.slice Ao18 t534.length co18 : Value).ownBlock ∧ some k_ ≠ (.slice Ao27 t550.length co27 : Value).ownBlock ∧ some k_ ≠ (v564 : Value).ownBlock)) (HO542.out) (fun k_ hk => ⟨hk.1.1.1.1.1.1.1.1.1, ⟨hk.1.1.1.1.1.2, hk.1.2⟩⟩))).2.1 (Kd.N_F (Kd.N_mono (ok' := (fun k_ => some k_ ≠ (.slice Ao18 t534.length co18 : Value).ownBlock ∧ some k_ ≠ (.slice Ao27 t550.length co27 : Value).ownBlock ∧ some k_ ≠ (v564 : Value).ownBlock)) (HO542.out) (fun k_ hk => ⟨hk.1.1.1.1.1.1.1.1.1, ⟨hk.1.1.1.1.1.2, hk.1.2⟩⟩))))) (Reps.one (show Kd.FK (Kd.slice 64 (Kd.slice 22 (Kd.slice 3 (Kd.int .i64)))) _ _ t566 [.slice Ao38 t566.length co38] from (Kd.FK_slice_mk (Kd.N_reads' (Kd.N_mono (ok' := (fun k_ => some k_ ≠ (.slice Ao18 t534.length co18 : Value).ownBlock ∧ some k_ ≠ (.slice Ao27 t550.length co27 : Value).ownBlock ∧ some k_ ≠ (v564 : Value).ownBlock)) (HO568.out) (fun k_ hk => ⟨hk.1, ⟨hk.2.2.2.1, hk.2.2.2.2⟩⟩))).2.1 (Kd.N_F (Kd.N_mono (ok' := (fun k_ => some k_ ≠ (.slice Ao18 t534.length co18 : Value).ownBlock ∧ some k_ ≠ (.slice Ao27 t550.length co27 : Value).ownBlock ∧ some k_ ≠ (v564 : Value).ownBlock)) (HO568.out) (fun k_ hk => ⟨hk.1, ⟨hk.2.2.2.1, hk.2.2.2.2⟩⟩))))) (Reps.none _ _))))); intro v570 w39 ho40 hb hg_ hnew_; clear hg_ hnew_; (first | rw [← Ny569.out] at ho40 | (simp only [Int.reduceToNat] at ho40; rw [← Ny569.out] at ho40)); have n0_ := A_ (Kd.R_below (rx_ HO536) hb); have n1_ := A_ (Kd.N_elder' (nx_ HO552) (Kd.N_base ho40) hb); have n2_ := A_ (Kd.N_elder' (nx_ HO565) (Kd.N_base ho40) hb); have n3_ := A_ (Kd.N_lower ho40 (below_size (bx_ HB))); have n4_ := A_ (below_step (bx_ HB) hb); clear HO536 HO552 HO565 HB HO539 HO542 HO568; have HO536 := n0_; have HO552 := n1_; have HO565 := n2_; have HO571 := n3_; have HB := n4_; clear n0_ n1_ n2_ n3_ n4_; clear hb ho40))
 go_loopg [23] k (fun kq v23 w' => ∃ (x23_1 : Int), v23 = .int .i64 x23_1 ∧ Aside0 (dioramalaw36_DiffApplies.l0 kq y563 y569 x23_1 = some r) ∧ Aside0 (kq ≤ k) ∧ Aside0 (Kd.N (Kd.slice 76 k76) 34 w' w.heap.size (fun k_ => some k_ ≠ (v570 : Value).ownBlock) v564 y563) ∧ Aside0 (Kd.N (Kd.slice 64 (Kd.slice 22 (Kd.slice 3 (Kd.int .i64)))) 25 w' w.heap.size (fun k_ => some k_ ≠ (v564 : Value).ownBlock) v570 y569) ∧ Aside0 (Below w.heap.size w w'))
 case atStart => exact ⟨(0), rf_, H', ⟨Nat.le_refl _⟩, ⟨by (with_reducible repeat (first | apply Kd.N_alloc | apply Kd.N_drewN | apply Kd.N_drew)); exact Kd.N_mono HO565.out (fun _ hk => hk.2)⟩, ⟨by (with_reducible repeat (first | apply Kd.N_alloc | apply Kd.N_drewN | apply Kd.N_drew)); exact Kd.N_mono HO571.out (fun _ hk => hk.2.2)⟩, ⟨bx_ HB⟩⟩
 case round =>
  clear H'
  try clear c1
  try clear c2
  obtain ⟨x23_1, rfl, HA, HK1, HO_21, HO_22, HB⟩ := hrel
  cases gk with
  | zero => exact absurd HA.out (by simp [dioramalaw36_DiffApplies.l0])
  | succ k1 =>
   have H := HA.out; clear HA; simp only [dioramalaw36_DiffApplies.l0] at H
   by_cases c41 : x23_1 < (y563.length : Int)
   ·rw [if_pos c41] at H
    have c41b0 := decide_eq_true c41; clear c41; have H' := A_ H; clear H; obtain ⟨Ao42, co42, eo42⟩ := Kd.N_slice HO_21.out; subst eo42; go_wp2
    go_loopg [24] k1 (fun kq v24 w' => ∃ (x24_2 : Int), v24 = .int .i64 x24_2 ∧ Aside0 (dioramalaw36_DiffApplies.l1 kq y563 y569 x23_1 x24_2 = some r) ∧ Aside0 (kq ≤ k1) ∧ Aside0 (Kd.N (Kd.slice 76 k76) 34 w' w.heap.size (fun k_ => some k_ ≠ (v570 : Value).ownBlock) (.slice Ao42 y563.length co42) y563) ∧ Aside0 (Kd.N (Kd.slice 64 (Kd.slice 22 (Kd.slice 3 (Kd.int .i64)))) 25 w' w.heap.size (fun k_ => some k_ ≠ ((.slice Ao42 y563.length co42) : Value).ownBlock) v570 y569) ∧ Aside0 (Below w.heap.size w w'))
    case atStart => exact ⟨(0), rf_, H', ⟨Nat.le_refl _⟩, ⟨by (with_reducible repeat (first | apply Kd.N_alloc | apply Kd.N_drewN | apply Kd.N_drew)); exact HO_21.out⟩, ⟨by (with_reducible repeat (first | apply Kd.N_alloc | apply Kd.N_drewN | apply Kd.N_drew)); exact HO_22.out⟩, ⟨bx_ HB⟩⟩
    case round =>
     clear H'
     try clear c1
     try clear c2
     try clear c41
     try clear c41b0
     obtain ⟨x24_2, rfl, HA, HK2, HO_21, HO_22, HB⟩ := hrel
     cases gk with
     | zero => exact absurd HA.out (by simp [dioramalaw36_DiffApplies.l1])
     | succ k2 =>
      have H := HA.out; clear HA; simp only [dioramalaw36_DiffApplies.l1] at H
      by_cases c43 : x24_2 < (y569.length : Int)
      ·rw [if_pos c43] at H
       have c43b0 := decide_eq_true c43; clear c43
       by_cases c44 : 0 ≤ x24_2
       ·rw [if_pos c44] at H
        have c44b0 := decide_eq_true c44; clear c44
        by_cases c45 : 0 ≤ x23_1
        ·rw [if_pos c45] at H
         have c45b0 := decide_eq_true c45; clear c45
         by_cases c46 : x23_1 < (y563.length : Int)
         ·rw [if_pos c46] at H
          have c46b0 := decide_eq_true c46; clear c46; replace H := Option.bind_eq_some_iff.mp H; obtain ⟨t575, A470, H⟩ := H
          (try dsimp only at H)
          have A47 := A_ A470; clear A470; replace H := Option.bind_eq_some_iff.mp H; obtain ⟨⟨t578, t579⟩, A480, H⟩ := H
          (try dsimp only at H)
          have A48 := A_ A480; clear A480; replace H := Option.bind_eq_some_iff.mp H; obtain ⟨⟨t584, t585⟩, A490, H⟩ := H
          (try dsimp only at H)
          have A49 := A_ A490; clear A490
          by_cases c50 : t579 = t585
          ·rw [if_pos c50] at H
           obtain ⟨c50b0, c50b1⟩ := be_ c50; clear c50; replace H := Option.bind_eq_some_iff.mp H; obtain ⟨t588, A510, H⟩ := H
           (try dsimp only at H)
           have A51 := A_ A510; clear A510
           by_cases c52 : t588 = true
           ·subst c52
            have H1 : (dioramalaw36_DiffApplies.l1 k2 y563 y569 x23_1 (wrap64 (x24_2 + 1))) = some r := by rw [if_pos rfl] at H; exact H
            clear H; have H := H1; clear H1; have H' := A_ H; clear H; obtain ⟨Ao53, co53, eo53⟩ := Kd.N_slice HO_22.out; subst eo53
            try go_wp2
            replace HO_21 := A_ (Kd.N_drew HO_21.out); replace HO_22 := A_ (Kd.N_drew HO_22.out); replace HB := A_ (below_drew1 HB.out); have p573 : 0 ≤ (x24_2 : Int) := od_; have q573 : x24_2 < (y569.length : Int) := od_; obtain ⟨ad573, A573_0, c573_0, e573, hx573_0, hl573_0, hi573_0⟩ := at_L3 (Kd.N_reads' HO_22.out).2.2 x24_2 p573 q573
            cases e573
            obtain ⟨ce573, hce573, hMe573, hcc573⟩ := Kd.N_get HO_22.out [] x24_2 p573 (by first | exact q573 | exact od_ | (have e_ := (Kd.N_reads' HO_22.out).1; omega)); obtain ⟨ua573_0, uc573_0, rfl, ul573_0, ge573_0⟩ := Kd.FK_slice_open hMe573; have hv573_0 := hcc573 0 _ rfl; rw [Nat.add_zero, show ((Kd.slice 64 (Kd.slice 22 (Kd.slice 3 (Kd.int .i64))))).sz = 1 from rfl, Nat.mul_one] at hv573_0; replace hv573_0 := Option.some.inj (hv573_0.symm.trans hx573_0)
            injection hv573_0 with hva_ hvn_ hvc_
            rw [hva_] at ge573_0; rw [hvc_] at ul573_0; have HL573_0 := A_ (show Kd.V (Kd.slice 22 (Kd.slice 3 (Kd.int .i64))) 64 _ w.heap.size _ _ (rd_L3 y569 x24_2) from Kd.V_mk ul573_0 ge573_0); clear hva_ hvn_ hvc_ ge573_0 ul573_0 hcc573 hce573; have HR573_0 := A_ hi573_0; have HC573_0 := A_ hl573_0; clear hi573_0 hl573_0; replace p573 := eq_true p573; replace q573 := eq_true q573; have p574 : 0 ≤ (x23_1 : Int) := od_; have q574 : x23_1 < (y563.length : Int) := od_; obtain ⟨ad574, A574_0, c574_0, e574, hx574_0, hl574_0, hi574_0⟩ := at_L7 (Kd.N_reads' HO_21.out).2.2 x23_1 p574 q574
            cases e574
            obtain ⟨ce574, hce574, hMe574, hcc574⟩ := Kd.N_get HO_21.out [] x23_1 p574 (by first | exact q574 | exact od_ | (have e_ := (Kd.N_reads' HO_21.out).1; omega)); obtain ⟨ua574_0, uc574_0, rfl, ul574_0, ge574_0⟩ := Kd.FK_slice_open hMe574; have hv574_0 := hcc574 0 _ rfl; rw [Nat.add_zero, show ((Kd.slice 76 k76)).sz = 1 from rfl, Nat.mul_one] at hv574_0; replace hv574_0 := Option.some.inj (hv574_0.symm.trans hx574_0)
            injection hv574_0 with hva_ hvn_ hvc_
            rw [hva_] at ge574_0; rw [hvc_] at ul574_0; have HL574_0 := A_ (show Kd.V k76 76 _ w.heap.size _ _ (rd_L7 y563 x23_1) from Kd.V_mk ul574_0 ge574_0); clear hva_ hvn_ hvc_ ge574_0 ul574_0 hcc574 hce574; have HR574_0 := A_ hi574_0; have HC574_0 := A_ hl574_0; clear hi574_0 hl574_0; replace p574 := eq_true p574; replace q574 := eq_true q574; refine start_ (n := 15) (S := fun w' => w'.cell? (ad573.add (x24_2).toNat) = some (.slice A573_0 (rd_L3 y569 x24_2).length c573_0) ∧ w'.cell? (ad574.add (x23_1).toNat) = some (.slice A574_0 (rd_L7 y563 x23_1).length c574_0)) (ds := []) (B_ 15 0) (by kernel_rfl) rfl rfl ⟨hx573_0, hx574_0⟩ (fun hHeld => ?_); refine with_tabW dioramalaw36_DiffApplies.tab15 dioramalaw36_DiffApplies.bits15 (fun HT_ HW_ => ?_); generalize wr.drew = w54 at HO_21 HO_22 HB HL573_0 HL574_0 HR573_0 HR574_0 hx573_0 hx574_0 hHeld ⊢; refine pT_ 0 90 (B_ 15 1) HT_ ?_; refine pT_ 1 91 (B_ 15 3) HT_ ?_; refine pT_ 2 92 (B_ 15 7) HT_ ?_; refine pT_ 4 94 (B_ 15 23) HT_ ?_; refine pT_ 5 95 (B_ 15 55) HT_ ?_; refine pT_ 6 96 (B_ 15 119) HT_ ?_; refine tT_ 3 93 (B_ 15 127) HT_ HW_ hHeld ?_; refine tT_ 7 97 (B_ 15 255) HT_ HW_ hHeld ?_; refine one_ (i := 8) (N := some 98) (B_ 15 511) rfl rfl (one_of HT_.out (by kernel_rfl)) (by decide) (fun K hK => ?_); refine goes_ Try.func22 (by kernel_rfl) rfl #[.slice A574_0 (rd_L7 y563 x23_1).length c574_0] (by rfl) rfl rfl lm_ ?_
            with_reducible refine (dioramalaw36_own.calls k2 (fun k_ => (some k_ ≠ (.slice (some ad573) y569.length co53 : Value).ownBlock ∧ some k_ ≠ (.slice (some ad574) y563.length co42 : Value).ownBlock)) _ _ (rd_L7 y563 x23_1) t575 _ ?side1 A47.out).mono ?_
            (case side1 => exact HL574_0.out)
            rintro e w55 ⟨v576, rfl, ho0, hb⟩; have HS0_ := hd_ hb (hHeld.1); have HS1_ := hd_ hb (hHeld.2); refine ⟨_, rfl, ?_⟩; replace HL573_0 := A_ (Kd.V_elder' (vx_ HL573_0) (ba_ ho0) hb); replace HL574_0 := A_ (Kd.V_elder' (vx_ HL574_0) (ba_ ho0) hb); have HO577 := A_ (Kd.N_lower (Kd.N_mono (ok' := fun k_ => some k_ ≠ (.slice (some ad574) y563.length co42 : Value).ownBlock ∧ some k_ ≠ (.slice (some ad573) y569.length co53 : Value).ownBlock) ho0 (fun k_ hk_ => ⟨Or.elim hk_ (fun hs_ => hs_.2) (fun hn_ => (Kd.fresh' (Kd.N_lt (nx_ HO_21)) k_ hn_)), Or.elim hk_ (fun hs_ => hs_.1) (fun hn_ => (Kd.fresh' (Kd.N_lt (nx_ HO_22)) k_ hn_))⟩)) (below_size (bx_ HB))); replace HO_21 := A_ (Kd.N_elder' (nx_ HO_21) (ba_ ho0) hb); replace HO_22 := A_ (Kd.N_elder' (nx_ HO_22) (ba_ ho0) hb); replace HR573_0 := A_ (Kd.C_below (cx_ HR573_0) hb); replace HR574_0 := A_ (Kd.C_below (cx_ HR574_0) hb); replace HB := A_ (below_step (bx_ HB) hb)
            (try clear hb)
            (try clear hb2)
            (try clear hk)
            (try clear hi)
            (try clear ho0)
            obtain ⟨Ao56, co56, eo56⟩ := Kd.N_slice HO577.out
            (first | subst eo56 | (injection eo56 with f1_ f2_ f3_; have f4_ := f1_.symm; have f5_ := f3_.symm; clear f1_ f2_ f3_; subst f4_; subst f5_))
            refine hK.out _ _ ⟨HS0_, HS1_⟩ (fun hHeld => ?_); clear hK K; refine norm_ (a' := ?_) ?_ ?_; rotate_left
            ·show Act.put _ (some 98) _ = _
             simp only [Act.put, sA_, sB_, sC_, i64_w, i32_w]; rfl
            refine one_ (i := 9) (N := some 99) (B_ 15 1023) rfl rfl (one_of HT_.out (by kernel_rfl)) (by decide) (fun K hK => ?_); refine goes_ Try.func19 (by kernel_rfl) rfl #[.slice A573_0 (rd_L3 y569 x24_2).length c573_0, .slice Ao56 t575.length co56] (by rfl) rfl rfl lm_ ?_
            with_reducible refine (diff_Apply.calls _ _ (rd_L3 y569 x24_2) _ _ t575 t578 t579 _ ?side1 ?side2 ?side3 ?side4 A48.out).mono ?_
            (case side1 => repeat (first | exact (cx_ HR573_0) | (with_reducible refine Kd.C_alloc ?_ _) | (with_reducible refine Kd.C_drewN ?_ _) | (with_reducible refine Kd.C_drew ?_)))
            (case side2 => exact HC573_0.out)
            (case side3 => repeat (first | exact (Kd.N_reads' HO577.out).2.2 | (with_reducible refine Kd.C_alloc ?_ _) | (with_reducible refine Kd.C_drewN ?_ _) | (with_reducible refine Kd.C_drew ?_)))
            (case side4 => exact (Kd.N_reads' HO577.out).2.1)
            rintro e w57 ⟨v580, rfl, ho0, hb⟩; have HS0_ := hd_ hb (hHeld.1); have HS1_ := hd_ hb (hHeld.2); refine ⟨_, rfl, ?_⟩; replace HL573_0 := A_ (Kd.V_elder' (vx_ HL573_0) (ba_ ho0) hb); replace HL574_0 := A_ (Kd.V_elder' (vx_ HL574_0) (ba_ ho0) hb); have HO581 := A_ (Kd.N_lower (Kd.N_mono (ok' := fun k_ => some k_ ≠ (.slice (some ad574) y563.length co42 : Value).ownBlock ∧ some k_ ≠ (.slice (some ad573) y569.length co53 : Value).ownBlock ∧ some k_ ≠ (.slice Ao56 t575.length co56 : Value).ownBlock) (Kd.R_N (Kd.R_bound ho0)) (fun k_ hk_ => ⟨(Kd.fresh' (Kd.N_lt (nx_ HO_21)) k_ hk_.2.1), (Kd.fresh' (Kd.N_lt (nx_ HO_22)) k_ hk_.2.1), (Kd.fresh' (Kd.N_lt (nx_ HO577)) k_ hk_.2.1)⟩)) (below_size (bx_ HB))); replace HO_21 := A_ (Kd.N_elder' (nx_ HO_21) (ba_ ho0) hb); replace HO_22 := A_ (Kd.N_elder' (nx_ HO_22) (ba_ ho0) hb); replace HO577 := A_ (Kd.N_elder' (nx_ HO577) (ba_ ho0) hb); replace HR573_0 := A_ (Kd.C_below (cx_ HR573_0) hb); replace HR574_0 := A_ (Kd.C_below (cx_ HR574_0) hb); replace HB := A_ (below_step (bx_ HB) hb)
            (try clear hb)
            (try clear hb2)
            (try clear hk)
            (try clear hi)
            (try clear ho0)
            refine hK.out _ _ ⟨HS0_, HS1_⟩ (fun hHeld => ?_); clear hK K; refine norm_ (a' := ?_) ?_ ?_; rotate_left
            ·show Act.put _ (some 99) _ = _
             simp only [Act.put, sA_, sB_, sC_, i64_w, i32_w]; rfl
            refine pT_ 10 89 (B_ 15 2047) HT_ ?_; refine pT_ 11 100 (B_ 15 4095) HT_ ?_; refine pT_ 12 101 (B_ 15 8191) HT_ ?_; refine pT_ 13 25 (B_ 15 16383) HT_ ?_; refine pT_ 14 26 (B_ 15 32767) HT_ ?_; refine done_ (done_of HT_.out (by kernel_rfl)) ?_
            try go_wp2
            replace HO_21 := A_ (Kd.N_drew HO_21.out); replace HO_22 := A_ (Kd.N_drew HO_22.out); replace HL573_0 := A_ (Kd.V_drew HL573_0.out); replace HL574_0 := A_ (Kd.V_drew HL574_0.out); replace HO577 := A_ (Kd.N_drew HO577.out); replace HO581 := A_ (Kd.N_drew HO581.out); replace HR573_0 := A_ (Kd.C_drew HR573_0.out); replace HR574_0 := A_ (Kd.C_drew HR574_0.out); replace HB := A_ (below_drew1 HB.out); have p582 : 0 ≤ (x24_2 : Int) := od_; have q582 : x24_2 < (y569.length : Int) := od_; obtain ⟨ad582, A582_0, c582_0, e582, hx582_0, hl582_0, hi582_0⟩ := at_L3 (Kd.N_reads' HO_22.out).2.2 x24_2 p582 q582; obtain rfl : ad573 = ad582 := (by injection e582); obtain ⟨ce582, hce582, hMe582, hcc582⟩ := Kd.N_get HO_22.out [] x24_2 p582 (by first | exact q582 | exact od_ | (have e_ := (Kd.N_reads' HO_22.out).1; omega)); obtain ⟨ua582_0, uc582_0, rfl, ul582_0, ge582_0⟩ := Kd.FK_slice_open hMe582; have hv582_0 := hcc582 0 _ rfl; rw [Nat.add_zero, show ((Kd.slice 64 (Kd.slice 22 (Kd.slice 3 (Kd.int .i64))))).sz = 1 from rfl, Nat.mul_one] at hv582_0; replace hv582_0 := Option.some.inj (hv582_0.symm.trans hx582_0)
            injection hv582_0 with hva_ hvn_ hvc_
            rw [hva_] at ge582_0; rw [hvc_] at ul582_0; have HL582_0 := A_ (show Kd.V (Kd.slice 22 (Kd.slice 3 (Kd.int .i64))) 64 _ w.heap.size _ _ (rd_L3 y569 x24_2) from Kd.V_mk ul582_0 ge582_0); clear hva_ hvn_ hvc_ ge582_0 ul582_0 hcc582 hce582; have HR582_0 := A_ hi582_0; have HC582_0 := A_ hl582_0; clear hi582_0 hl582_0; replace p582 := eq_true p582; replace q582 := eq_true q582; have p583 : 0 ≤ (x23_1 : Int) := od_; have q583 : x23_1 < (y563.length : Int) := od_; obtain ⟨ad583, A583_0, c583_0, e583, hx583_0, hl583_0, hi583_0⟩ := at_L7 (Kd.N_reads' HO_21.out).2.2 x23_1 p583 q583; obtain rfl : ad574 = ad583 := (by injection e583); obtain ⟨ce583, hce583, hMe583, hcc583⟩ := Kd.N_get HO_21.out [] x23_1 p583 (by first | exact q583 | exact od_ | (have e_ := (Kd.N_reads' HO_21.out).1; omega)); obtain ⟨ua583_0, uc583_0, rfl, ul583_0, ge583_0⟩ := Kd.FK_slice_open hMe583; have hv583_0 := hcc583 0 _ rfl; rw [Nat.add_zero, show ((Kd.slice 76 k76)).sz = 1 from rfl, Nat.mul_one] at hv583_0; replace hv583_0 := Option.some.inj (hv583_0.symm.trans hx583_0)
            injection hv583_0 with hva_ hvn_ hvc_
            rw [hva_] at ge583_0; rw [hvc_] at ul583_0; have HL583_0 := A_ (show Kd.V k76 76 _ w.heap.size _ _ (rd_L7 y563 x23_1) from Kd.V_mk ul583_0 ge583_0); clear hva_ hvn_ hvc_ ge583_0 ul583_0 hcc583 hce583; have HR583_0 := A_ hi583_0; have HC583_0 := A_ hl583_0; clear hi583_0 hl583_0; replace p583 := eq_true p583; replace q583 := eq_true q583; refine start_ (n := 14) (S := fun w' => w'.cell? (ad573.add (x24_2).toNat) = some (.slice A582_0 (rd_L3 y569 x24_2).length c582_0) ∧ w'.cell? (ad574.add (x23_1).toNat) = some (.slice A583_0 (rd_L7 y563 x23_1).length c583_0)) (ds := []) (B_ 14 0) (by kernel_rfl) rfl rfl ⟨hx582_0, hx583_0⟩ (fun hHeld => ?_); refine with_tabW dioramalaw36_DiffApplies.tab16 dioramalaw36_DiffApplies.bits16 (fun HT_ HW_ => ?_); generalize w57.drew = w58 at HO_21 HO_22 HL573_0 HL574_0 HO577 HO581 HR573_0 HR574_0 HB HL582_0 HL583_0 HR582_0 HR583_0 hx582_0 hx583_0 hHeld ⊢; refine pT_ 0 103 (B_ 14 1) HT_ ?_; refine pT_ 1 104 (B_ 14 3) HT_ ?_; refine pT_ 2 105 (B_ 14 7) HT_ ?_; refine pT_ 4 107 (B_ 14 23) HT_ ?_; refine pT_ 5 108 (B_ 14 55) HT_ ?_; refine pT_ 6 109 (B_ 14 119) HT_ ?_; refine tT_ 3 106 (B_ 14 127) HT_ HW_ hHeld ?_; refine tT_ 7 110 (B_ 14 255) HT_ HW_ hHeld ?_; refine one_ (i := 8) (N := some 111) (B_ 14 511) rfl rfl (one_of HT_.out (by kernel_rfl)) (by decide) (fun K hK => ?_); refine goes_ Try.func25 (by kernel_rfl) rfl #[.slice A582_0 (rd_L3 y569 x24_2).length c582_0, .slice A583_0 (rd_L7 y563 x23_1).length c583_0] (by rfl) rfl rfl lm_ ?_
            with_reducible refine (dioramaref36_Apply.calls _ _ (rd_L3 y569 x24_2) _ _ (rd_L7 y563 x23_1) t584 t585 _ ?side1 ?side2 ?side3 ?side4 A49.out).mono ?_
            (case side1 => repeat (first | exact (cx_ HR582_0) | (with_reducible refine Kd.C_alloc ?_ _) | (with_reducible refine Kd.C_drewN ?_ _) | (with_reducible refine Kd.C_drew ?_)))
            (case side2 => exact HC582_0.out)
            (case side3 => repeat (first | exact (cx_ HR583_0) | (with_reducible refine Kd.C_alloc ?_ _) | (with_reducible refine Kd.C_drewN ?_ _) | (with_reducible refine Kd.C_drew ?_)))
            (case side4 => exact HC583_0.out)
            rintro e w59 ⟨v586, rfl, ho0, hb⟩; have HS0_ := hd_ hb (hHeld.1); have HS1_ := hd_ hb (hHeld.2); refine ⟨_, rfl, ?_⟩; replace HL573_0 := A_ (Kd.V_elder' (vx_ HL573_0) (ba_ ho0) hb); replace HL574_0 := A_ (Kd.V_elder' (vx_ HL574_0) (ba_ ho0) hb); replace HL582_0 := A_ (Kd.V_elder' (vx_ HL582_0) (ba_ ho0) hb); replace HL583_0 := A_ (Kd.V_elder' (vx_ HL583_0) (ba_ ho0) hb); have HO587 := A_ (Kd.N_lower (Kd.N_mono (ok' := fun k_ => some k_ ≠ (.slice (some ad574) y563.length co42 : Value).ownBlock ∧ some k_ ≠ (.slice (some ad573) y569.length co53 : Value).ownBlock ∧ some k_ ≠ (.slice Ao56 t575.length co56 : Value).ownBlock ∧ some k_ ≠ (v580 : Value).ownBlock) (Kd.R_N (Kd.R_bound ho0)) (fun k_ hk_ => ⟨(Kd.fresh' (Kd.N_lt (nx_ HO_21)) k_ hk_.2.1), (Kd.fresh' (Kd.N_lt (nx_ HO_22)) k_ hk_.2.1), (Kd.fresh' (Kd.N_lt (nx_ HO577)) k_ hk_.2.1), (Kd.fresh' (Kd.N_lt (nx_ HO581)) k_ hk_.2.1)⟩)) (below_size (bx_ HB))); replace HO_21 := A_ (Kd.N_elder' (nx_ HO_21) (ba_ ho0) hb); replace HO_22 := A_ (Kd.N_elder' (nx_ HO_22) (ba_ ho0) hb); replace HO577 := A_ (Kd.N_elder' (nx_ HO577) (ba_ ho0) hb); replace HO581 := A_ (Kd.N_elder' (nx_ HO581) (ba_ ho0) hb); replace HR573_0 := A_ (Kd.C_below (cx_ HR573_0) hb); replace HR574_0 := A_ (Kd.C_below (cx_ HR574_0) hb); replace HR582_0 := A_ (Kd.C_below (cx_ HR582_0) hb); replace HR583_0 := A_ (Kd.C_below (cx_ HR583_0) hb); replace HB := A_ (below_step (bx_ HB) hb)
            (try clear hb)
            (try clear hb2)
            (try clear hk)
            (try clear hi)
            (try clear ho0)
            refine hK.out _ _ ⟨HS0_, HS1_⟩ (fun hHeld => ?_); clear hK K; refine norm_ (a' := ?_) ?_ ?_; rotate_left
            ·show Act.put _ (some 111) _ = _
             simp only [Act.put, sA_, sB_, sC_, i64_w, i32_w]; rfl
            refine pT_ 9 102 (B_ 14 1023) HT_ ?_; refine pT_ 10 112 (B_ 14 2047) HT_ ?_; refine pT_ 11 113 (B_ 14 4095) HT_ ?_; refine pT_ 12 27 (B_ 14 8191) HT_ ?_; refine pT_ 13 28 (B_ 14 16383) HT_ ?_; refine done_ (done_of HT_.out (by kernel_rfl)) ?_; obtain ⟨Ao60, co60, eo60⟩ := Kd.N_slice HO581.out; subst eo60; obtain ⟨Ao61, co61, eo61⟩ := Kd.N_slice HO587.out; subst eo61
            try go_wp2_with (first | (go_at_call 21; (with_reducible refine (dioramaref36_SameWorld.calls k2 _ _ t578 _ _ t584 true _ ?side1 ?side2 ?side3 ?side4 A51.out).mono ?_); (case side1 => repeat (first | exact (Kd.N_reads' HO581.out).2.2 | (with_reducible refine Kd.C_alloc ?_ _) | (with_reducible refine Kd.C_drewN ?_ _) | (with_reducible refine Kd.C_drew ?_))); (case side2 => exact (Kd.N_reads' HO581.out).2.1); (case side3 => repeat (first | exact (Kd.N_reads' HO587.out).2.2 | (with_reducible refine Kd.C_alloc ?_ _) | (with_reducible refine Kd.C_drewN ?_ _) | (with_reducible refine Kd.C_drew ?_))); (case side4 => exact (Kd.N_reads' HO587.out).2.1); rintro e w' ⟨rfl, ⟨nd, rfl⟩⟩))
            go_roundg k2
            case measure => have := HK1.out; have := HK2.out; omega
            case rel => exact ⟨(wrap64 (x24_2 + 1)), rf_, H', ⟨by have := HK1.out; have := HK2.out; omega⟩, ⟨by (with_reducible repeat (first | apply Kd.N_alloc | apply Kd.N_drewN | apply Kd.N_drew)); exact Kd.N_mono HO_21.out (fun _ hk => hk.1.1.1)⟩, ⟨by (with_reducible repeat (first | apply Kd.N_alloc | apply Kd.N_drewN | apply Kd.N_drew)); exact Kd.N_mono HO_22.out (fun _ hk => hk.1.1.1)⟩, ⟨bx_ HB⟩⟩
           ·replace c52 := Bool.eq_false_iff.mpr c52
            subst c52
            have H1 : (some false) = some r := by rw [if_neg (show ¬ (false = true) by decide)] at H; exact H
            clear H; have H := H1; clear H1; exact absurd ((Option.some.inj H).trans HT9_.out) (by simp)
          (· rw [if_neg c50] at H; obtain ⟨c50b0, c50b1⟩ := bn_ c50; exact absurd ((Option.some.inj H).trans HT9_.out) (by simp))
         (· rw [if_neg c46] at H; exact absurd H (by simp))
        (· rw [if_neg c45] at H; exact absurd H (by simp))
       (· rw [if_neg c44] at H; exact absurd H (by simp))
      ·rw [if_neg c43] at H
       have c43b0 := decide_eq_false c43; clear c43
       by_cases c78 : 0 ≤ x23_1
       ·rw [if_pos c78] at H
        have c78b0 := decide_eq_true c78; clear c78
        by_cases c79 : x23_1 < (y563.length : Int)
        ·rw [if_pos c79] at H
         have c79b0 := decide_eq_true c79; clear c79; replace H := Option.bind_eq_some_iff.mp H; obtain ⟨t590, A800, H⟩ := H
         (try dsimp only at H)
         have A80 := A_ A800; clear A800; replace H := Option.bind_eq_some_iff.mp H; obtain ⟨t593, A810, H⟩ := H
         (try dsimp only at H)
         have A81 := A_ A810; clear A810; replace H := Option.bind_eq_some_iff.mp H; obtain ⟨t596, A820, H⟩ := H
         (try dsimp only at H)
         have A82 := A_ A820; clear A820; replace H := Option.bind_eq_some_iff.mp H; obtain ⟨t600, A830, H⟩ := H
         (try dsimp only at H)
         have A83 := A_ A830; clear A830; replace H := Option.bind_eq_some_iff.mp H; obtain ⟨t603, A840, H⟩ := H
         (try dsimp only at H)
         have A84 := A_ A840; clear A840
         by_cases c85 : t603 = true
         ·subst c85
          have H1 : ((dioramalaw36_own.f k2 (rd_L7 y563 x23_1)).bind fun t605 => ((diff_Encode.f k2 t605).bind fun t608 => ((dioramaref36_Encode.f k2 (rd_L7 y563 x23_1)).bind fun t612 => ((dioramaref01_Same.f k2 t608 t612).bind fun t615 => (if t615 = true then (dioramalaw36_DiffApplies.l0 k2 y563 y569 (wrap64 (x23_1 + 1))) else (some false)))))) = some r := by rw [if_pos rfl] at H; exact H
          clear H; have H := H1; clear H1; replace H := Option.bind_eq_some_iff.mp H; obtain ⟨t605, A860, H⟩ := H
          (try dsimp only at H)
          have A86 := A_ A860; clear A860; replace H := Option.bind_eq_some_iff.mp H; obtain ⟨t608, A870, H⟩ := H
          (try dsimp only at H)
          have A87 := A_ A870; clear A870; replace H := Option.bind_eq_some_iff.mp H; obtain ⟨t612, A880, H⟩ := H
          (try dsimp only at H)
          have A88 := A_ A880; clear A880; replace H := Option.bind_eq_some_iff.mp H; obtain ⟨t615, A890, H⟩ := H
          (try dsimp only at H)
          have A89 := A_ A890; clear A890
          by_cases c90 : t615 = true
          ·subst c90
           have H1 : (dioramalaw36_DiffApplies.l0 k2 y563 y569 (wrap64 (x23_1 + 1))) = some r := by rw [if_pos rfl] at H; exact H
           clear H; have H := H1; clear H1; have H' := A_ H; clear H; obtain ⟨Ao91, co91, eo91⟩ := Kd.N_slice HO_22.out; subst eo91
           try go_wp2
           replace HO_21 := A_ (Kd.N_drew HO_21.out); replace HO_22 := A_ (Kd.N_drew HO_22.out); replace HB := A_ (below_drew1 HB.out); have p589 : 0 ≤ (x23_1 : Int) := od_; have q589 : x23_1 < (y563.length : Int) := od_; obtain ⟨ad589, A589_0, c589_0, e589, hx589_0, hl589_0, hi589_0⟩ := at_L7 (Kd.N_reads' HO_21.out).2.2 x23_1 p589 q589
           cases e589
           obtain ⟨ce589, hce589, hMe589, hcc589⟩ := Kd.N_get HO_21.out [] x23_1 p589 (by first | exact q589 | exact od_ | (have e_ := (Kd.N_reads' HO_21.out).1; omega)); obtain ⟨ua589_0, uc589_0, rfl, ul589_0, ge589_0⟩ := Kd.FK_slice_open hMe589; have hv589_0 := hcc589 0 _ rfl; rw [Nat.add_zero, show ((Kd.slice 76 k76)).sz = 1 from rfl, Nat.mul_one] at hv589_0; replace hv589_0 := Option.some.inj (hv589_0.symm.trans hx589_0)
           injection hv589_0 with hva_ hvn_ hvc_
           rw [hva_] at ge589_0; rw [hvc_] at ul589_0; have HL589_0 := A_ (show Kd.V k76 76 _ w.heap.size _ _ (rd_L7 y563 x23_1) from Kd.V_mk ul589_0 ge589_0); clear hva_ hvn_ hvc_ ge589_0 ul589_0 hcc589 hce589; have HR589_0 := A_ hi589_0; have HC589_0 := A_ hl589_0; clear hi589_0 hl589_0; replace p589 := eq_true p589; replace q589 := eq_true q589; have p599 : 0 ≤ (x23_1 : Int) := od_; have q599 : x23_1 < (y563.length : Int) := od_; obtain ⟨ad599, A599_0, c599_0, e599, hx599_0, hl599_0, hi599_0⟩ := at_L7 (Kd.N_reads' HO_21.out).2.2 x23_1 p599 q599; obtain rfl : ad589 = ad599 := (by injection e599); obtain ⟨ce599, hce599, hMe599, hcc599⟩ := Kd.N_get HO_21.out [] x23_1 p599 (by first | exact q599 | exact od_ | (have e_ := (Kd.N_reads' HO_21.out).1; omega)); obtain ⟨ua599_0, uc599_0, rfl, ul599_0, ge599_0⟩ := Kd.FK_slice_open hMe599; have hv599_0 := hcc599 0 _ rfl; rw [Nat.add_zero, show ((Kd.slice 76 k76)).sz = 1 from rfl, Nat.mul_one] at hv599_0; replace hv599_0 := Option.some.inj (hv599_0.symm.trans hx599_0)
           injection hv599_0 with hva_ hvn_ hvc_
           rw [hva_] at ge599_0; rw [hvc_] at ul599_0; have HL599_0 := A_ (show Kd.V k76 76 _ w.heap.size _ _ (rd_L7 y563 x23_1) from Kd.V_mk ul599_0 ge599_0); clear hva_ hvn_ hvc_ ge599_0 ul599_0 hcc599 hce599; have HR599_0 := A_ hi599_0; have HC599_0 := A_ hl599_0; clear hi599_0 hl599_0; replace p599 := eq_true p599; replace q599 := eq_true q599; have ea_ := Option.some.inj (hx589_0.symm.trans hx599_0)
           injection ea_ with ea_ en_ ec_
           subst ea_; subst ec_; clear en_; have p604 : 0 ≤ (x23_1 : Int) := od_; have q604 : x23_1 < (y563.length : Int) := od_; obtain ⟨ad604, A604_0, c604_0, e604, hx604_0, hl604_0, hi604_0⟩ := at_L7 (Kd.N_reads' HO_21.out).2.2 x23_1 p604 q604; obtain rfl : ad589 = ad604 := (by injection e604); obtain ⟨ce604, hce604, hMe604, hcc604⟩ := Kd.N_get HO_21.out [] x23_1 p604 (by first | exact q604 | exact od_ | (have e_ := (Kd.N_reads' HO_21.out).1; omega)); obtain ⟨ua604_0, uc604_0, rfl, ul604_0, ge604_0⟩ := Kd.FK_slice_open hMe604; have hv604_0 := hcc604 0 _ rfl; rw [Nat.add_zero, show ((Kd.slice 76 k76)).sz = 1 from rfl, Nat.mul_one] at hv604_0; replace hv604_0 := Option.some.inj (hv604_0.symm.trans hx604_0)
           injection hv604_0 with hva_ hvn_ hvc_
           rw [hva_] at ge604_0; rw [hvc_] at ul604_0; have HL604_0 := A_ (show Kd.V k76 76 _ w.heap.size _ _ (rd_L7 y563 x23_1) from Kd.V_mk ul604_0 ge604_0); clear hva_ hvn_ hvc_ ge604_0 ul604_0 hcc604 hce604; have HR604_0 := A_ hi604_0; have HC604_0 := A_ hl604_0; clear hi604_0 hl604_0; replace p604 := eq_true p604; replace q604 := eq_true q604; have ea_ := Option.some.inj (hx589_0.symm.trans hx604_0)
           injection ea_ with ea_ en_ ec_
           subst ea_; subst ec_; clear en_; have p611 : 0 ≤ (x23_1 : Int) := od_; have q611 : x23_1 < (y563.length : Int) := od_; obtain ⟨ad611, A611_0, c611_0, e611, hx611_0, hl611_0, hi611_0⟩ := at_L7 (Kd.N_reads' HO_21.out).2.2 x23_1 p611 q611; obtain rfl : ad589 = ad611 := (by injection e611); obtain ⟨ce611, hce611, hMe611, hcc611⟩ := Kd.N_get HO_21.out [] x23_1 p611 (by first | exact q611 | exact od_ | (have e_ := (Kd.N_reads' HO_21.out).1; omega)); obtain ⟨ua611_0, uc611_0, rfl, ul611_0, ge611_0⟩ := Kd.FK_slice_open hMe611; have hv611_0 := hcc611 0 _ rfl; rw [Nat.add_zero, show ((Kd.slice 76 k76)).sz = 1 from rfl, Nat.mul_one] at hv611_0; replace hv611_0 := Option.some.inj (hv611_0.symm.trans hx611_0)
           injection hv611_0 with hva_ hvn_ hvc_
           rw [hva_] at ge611_0; rw [hvc_] at ul611_0; have HL611_0 := A_ (show Kd.V k76 76 _ w.heap.size _ _ (rd_L7 y563 x23_1) from Kd.V_mk ul611_0 ge611_0); clear hva_ hvn_ hvc_ ge611_0 ul611_0 hcc611 hce611; have HR611_0 := A_ hi611_0; have HC611_0 := A_ hl611_0; clear hi611_0 hl611_0; replace p611 := eq_true p611; replace q611 := eq_true q611; have ea_ := Option.some.inj (hx589_0.symm.trans hx611_0)
           injection ea_ with ea_ en_ ec_
           subst ea_; subst ec_; clear en_; refine start_ (n := 29) (S := fun w' => w'.cell? (ad589.add (x23_1).toNat) = some (.slice A589_0 (rd_L7 y563 x23_1).length c589_0) ∧ w'.cell? (ad589.add (x23_1).toNat) = some (.slice A589_0 (rd_L7 y563 x23_1).length c589_0) ∧ w'.cell? (ad589.add (x23_1).toNat) = some (.slice A589_0 (rd_L7 y563 x23_1).length c589_0) ∧ w'.cell? (ad589.add (x23_1).toNat) = some (.slice A589_0 (rd_L7 y563 x23_1).length c589_0)) (ds := []) (B_ 29 0) (by kernel_rfl) rfl rfl ⟨hx589_0, hx599_0, hx604_0, hx611_0⟩ (fun hHeld => ?_); refine with_tabW dioramalaw36_DiffApplies.tab19 dioramalaw36_DiffApplies.bits19 (fun HT_ HW_ => ?_); generalize wr.drew = w92 at HO_21 HO_22 HB HL589_0 HL599_0 HL604_0 HL611_0 HR589_0 HR599_0 HR604_0 HR611_0 hx589_0 hx599_0 hx604_0 hx611_0 hHeld ⊢; refine pT_ 0 123 (B_ 29 1) HT_ ?_; refine pT_ 1 124 (B_ 29 3) HT_ ?_; refine pT_ 2 125 (B_ 29 7) HT_ ?_; refine pT_ 7 130 (B_ 29 135) HT_ ?_; refine pT_ 8 131 (B_ 29 391) HT_ ?_; refine pT_ 9 132 (B_ 29 903) HT_ ?_; refine tT_ 3 126 (B_ 29 911) HT_ HW_ hHeld ?_; refine tT_ 10 133 (B_ 29 1935) HT_ HW_ hHeld ?_; refine one_ (i := 4) (N := some 127) (B_ 29 1951) rfl rfl (one_of HT_.out (by kernel_rfl)) (by decide) (fun K hK => ?_); refine goes_ Try.func22 (by kernel_rfl) rfl #[.slice A589_0 (rd_L7 y563 x23_1).length c589_0] (by rfl) rfl rfl lm_ ?_
           with_reducible refine (dioramalaw36_own.calls k2 (fun k_ => (some k_ ≠ (.slice Ao91 y569.length co91 : Value).ownBlock ∧ some k_ ≠ (.slice (some ad589) y563.length co42 : Value).ownBlock)) _ _ (rd_L7 y563 x23_1) t590 _ ?side1 A80.out).mono ?_
           (case side1 => exact HL589_0.out)
           rintro e w93 ⟨v591, rfl, ho0, hb⟩; have HS0_ := hd_ hb (hHeld.1); have HS1_ := hd_ hb (hHeld.2.1); have HS2_ := hd_ hb (hHeld.2.2.1); have HS3_ := hd_ hb (hHeld.2.2.2); refine ⟨_, rfl, ?_⟩; replace HL589_0 := A_ (Kd.V_elder' (vx_ HL589_0) (ba_ ho0) hb); replace HL599_0 := A_ (Kd.V_elder' (vx_ HL599_0) (ba_ ho0) hb); have HO592 := A_ (Kd.N_lower (Kd.N_mono (ok' := fun k_ => some k_ ≠ (.slice (some ad589) y563.length co42 : Value).ownBlock ∧ some k_ ≠ (.slice Ao91 y569.length co91 : Value).ownBlock) ho0 (fun k_ hk_ => ⟨Or.elim hk_ (fun hs_ => hs_.2) (fun hn_ => (Kd.fresh' (Kd.N_lt (nx_ HO_21)) k_ hn_)), Or.elim hk_ (fun hs_ => hs_.1) (fun hn_ => (Kd.fresh' (Kd.N_lt (nx_ HO_22)) k_ hn_))⟩)) (below_size (bx_ HB))); replace HO_21 := A_ (Kd.N_elder' (nx_ HO_21) (ba_ ho0) hb); replace HO_22 := A_ (Kd.N_elder' (nx_ HO_22) (ba_ ho0) hb); replace HR589_0 := A_ (Kd.C_below (cx_ HR589_0) hb); replace HR599_0 := A_ (Kd.C_below (cx_ HR599_0) hb); replace HB := A_ (below_step (bx_ HB) hb)
           (try clear hb)
           (try clear hb2)
           (try clear hk)
           (try clear hi)
           (try clear ho0)
           obtain ⟨Ao94, co94, eo94⟩ := Kd.N_slice HO592.out
           (first | subst eo94 | (injection eo94 with f1_ f2_ f3_; have f4_ := f1_.symm; have f5_ := f3_.symm; clear f1_ f2_ f3_; subst f4_; subst f5_))
           refine hK.out _ _ ⟨HS0_, HS1_, HS2_, HS3_⟩ (fun hHeld => ?_); clear hK K; refine norm_ (a' := ?_) ?_ ?_; rotate_left
           ·show Act.put _ (some 127) _ = _
            simp only [Act.put, sA_, sB_, sC_, i64_w, i32_w]; rfl
           refine one_ (i := 5) (N := some 128) (B_ 29 1983) rfl rfl (one_of HT_.out (by kernel_rfl)) (by decide) (fun K hK => ?_); refine goes_ Try.func20 (by kernel_rfl) rfl #[.slice Ao94 t590.length co94] (by rfl) rfl rfl lm_ ?_
           with_reducible refine (diff_Turn.calls _ _ t590 t593 _ ?side1 ?side2 A81.out).mono ?_
           (case side1 => repeat (first | exact (Kd.N_reads' HO592.out).2.2 | (with_reducible refine Kd.C_alloc ?_ _) | (with_reducible refine Kd.C_drewN ?_ _) | (with_reducible refine Kd.C_drew ?_)))
           (case side2 => exact (Kd.N_reads' HO592.out).2.1)
           rintro e w95 ⟨v594, rfl, ho0, hb⟩; have HS0_ := hd_ hb (hHeld.1); have HS1_ := hd_ hb (hHeld.2.1); have HS2_ := hd_ hb (hHeld.2.2.1); have HS3_ := hd_ hb (hHeld.2.2.2); refine ⟨_, rfl, ?_⟩; replace HL589_0 := A_ (Kd.V_elder' (vx_ HL589_0) (ba_ ho0) hb); replace HL599_0 := A_ (Kd.V_elder' (vx_ HL599_0) (ba_ ho0) hb); have HO595 := A_ (Kd.N_lower (Kd.N_mono (ok' := fun k_ => some k_ ≠ (.slice (some ad589) y563.length co42 : Value).ownBlock ∧ some k_ ≠ (.slice Ao91 y569.length co91 : Value).ownBlock ∧ some k_ ≠ (.slice Ao94 t590.length co94 : Value).ownBlock) ho0 (fun k_ hk_ => ⟨(Kd.fresh' (Kd.N_lt (nx_ HO_21)) k_ hk_), (Kd.fresh' (Kd.N_lt (nx_ HO_22)) k_ hk_), (Kd.fresh' (Kd.N_lt (nx_ HO592)) k_ hk_)⟩)) (below_size (bx_ HB))); replace HO_21 := A_ (Kd.N_elder' (nx_ HO_21) (ba_ ho0) hb); replace HO_22 := A_ (Kd.N_elder' (nx_ HO_22) (ba_ ho0) hb); replace HO592 := A_ (Kd.N_elder' (nx_ HO592) (ba_ ho0) hb); replace HR589_0 := A_ (Kd.C_below (cx_ HR589_0) hb); replace HR599_0 := A_ (Kd.C_below (cx_ HR599_0) hb); replace HB := A_ (below_step (bx_ HB) hb)
           (try clear hb)
           (try clear hb2)
           (try clear hk)
           (try clear hi)
           (try clear ho0)
           obtain ⟨Ao96, co96, eo96⟩ := Kd.N_slice HO595.out
           (first | subst eo96 | (injection eo96 with f1_ f2_ f3_; have f4_ := f1_.symm; have f5_ := f3_.symm; clear f1_ f2_ f3_; subst f4_; subst f5_))
           refine hK.out _ _ ⟨HS0_, HS1_, HS2_, HS3_⟩ (fun hHeld => ?_); clear hK K; refine norm_ (a' := ?_) ?_ ?_; rotate_left
           ·show Act.put _ (some 128) _ = _
            simp only [Act.put, sA_, sB_, sC_, i64_w, i32_w]; rfl
           refine one_ (i := 6) (N := some 129) (B_ 29 2047) rfl rfl (one_of HT_.out (by kernel_rfl)) (by decide) (fun K hK => ?_); refine goes_ Try.func17 (by kernel_rfl) rfl #[.slice Ao96 t593.length co96] (by rfl) rfl rfl lm_ ?_
           with_reducible refine (dioramalaw36_plain.calls k2 (fun k_ => (some k_ ≠ (.slice (some ad589) y563.length co42 : Value).ownBlock ∧ (some k_ ≠ (.slice Ao91 y569.length co91 : Value).ownBlock ∧ some k_ ≠ (.slice Ao94 t590.length co94 : Value).ownBlock))) _ _ t593 t596 _ ?side1 A82.out).mono ?_
           (case side1 => exact Kd.N_V (HO595.out))
           rintro e w97 ⟨v597, rfl, ho0, hb⟩; have HS0_ := hd_ hb (hHeld.1); have HS1_ := hd_ hb (hHeld.2.1); have HS2_ := hd_ hb (hHeld.2.2.1); have HS3_ := hd_ hb (hHeld.2.2.2); refine ⟨_, rfl, ?_⟩; replace HL589_0 := A_ (Kd.V_elder' (vx_ HL589_0) (ba_ ho0) hb); replace HL599_0 := A_ (Kd.V_elder' (vx_ HL599_0) (ba_ ho0) hb); replace HO595 := A_ (Kd.N_elder' (nx_ HO595) (ba_ ho0) hb); have HO598 := A_ (Kd.N_lower (Kd.N_mono (ok' := fun k_ => some k_ ≠ (.slice (some ad589) y563.length co42 : Value).ownBlock ∧ some k_ ≠ (.slice Ao91 y569.length co91 : Value).ownBlock ∧ some k_ ≠ (.slice Ao94 t590.length co94 : Value).ownBlock) ho0 (fun k_ hk_ => ⟨Or.elim hk_ (fun hs_ => hs_.1) (fun hn_ => (Kd.fresh' (Kd.N_lt (nx_ HO_21)) k_ hn_)), Or.elim hk_ (fun hs_ => hs_.2.1) (fun hn_ => (Kd.fresh' (Kd.N_lt (nx_ HO_22)) k_ hn_)), Or.elim hk_ (fun hs_ => hs_.2.2) (fun hn_ => (Kd.fresh' (Kd.N_lt (nx_ HO592)) k_ hn_))⟩)) (below_size (bx_ HB))); replace HO_21 := A_ (Kd.N_elder' (nx_ HO_21) (ba_ ho0) hb); replace HO_22 := A_ (Kd.N_elder' (nx_ HO_22) (ba_ ho0) hb); replace HO592 := A_ (Kd.N_elder' (nx_ HO592) (ba_ ho0) hb); replace HR589_0 := A_ (Kd.C_below (cx_ HR589_0) hb); replace HR599_0 := A_ (Kd.C_below (cx_ HR599_0) hb); replace HB := A_ (below_step (bx_ HB) hb)
           (try clear hb)
           (try clear hb2)
           (try clear hk)
           (try clear hi)
           (try clear ho0)
           refine hK.out _ _ ⟨HS0_, HS1_, HS2_, HS3_⟩ (fun hHeld => ?_); clear hK K; refine norm_ (a' := ?_) ?_ ?_; rotate_left
           ·show Act.put _ (some 129) _ = _
            simp only [Act.put, sA_, sB_, sC_, i64_w, i32_w]; rfl
           refine one_ (i := 11) (N := some 134) (B_ 29 4095) rfl rfl (one_of HT_.out (by kernel_rfl)) (by decide) (fun K hK => ?_); refine goes_ Try.func24 (by kernel_rfl) rfl #[.slice A589_0 (rd_L7 y563 x23_1).length c589_0] (by rfl) rfl rfl lm_ ?_
           with_reducible refine (dioramaref36_Turn.calls k2 (fun k_ => ((((some k_ ≠ (.slice Ao91 y569.length co91 : Value).ownBlock ∧ some k_ ≠ (.slice (some ad589) y563.length co42 : Value).ownBlock) ∧ some k_ ≠ (.slice Ao94 t590.length co94 : Value).ownBlock) ∧ some k_ ≠ (.slice Ao96 t593.length co96 : Value).ownBlock) ∧ some k_ ≠ (v597 : Value).ownBlock)) _ _ (rd_L7 y563 x23_1) t600 _ ?side1 A83.out).mono ?_
           (case side1 => exact HL599_0.out)
           rintro e w98 ⟨v601, rfl, ho0, hb⟩; have HS0_ := hd_ hb (hHeld.1); have HS1_ := hd_ hb (hHeld.2.1); have HS2_ := hd_ hb (hHeld.2.2.1); have HS3_ := hd_ hb (hHeld.2.2.2); refine ⟨_, rfl, ?_⟩; replace HL589_0 := A_ (Kd.V_elder' (vx_ HL589_0) (ba_ ho0) hb); replace HL599_0 := A_ (Kd.V_elder' (vx_ HL599_0) (ba_ ho0) hb); have HO602 := A_ (Kd.N_lower (Kd.N_mono (ok' := fun k_ => some k_ ≠ (.slice (some ad589) y563.length co42 : Value).ownBlock ∧ some k_ ≠ (.slice Ao91 y569.length co91 : Value).ownBlock ∧ some k_ ≠ (.slice Ao94 t590.length co94 : Value).ownBlock ∧ some k_ ≠ (.slice Ao96 t593.length co96 : Value).ownBlock ∧ some k_ ≠ (v597 : Value).ownBlock) ho0 (fun k_ hk_ => ⟨Or.elim hk_ (fun hs_ => hs_.1.1.1.2) (fun hn_ => (Kd.fresh' (Kd.N_lt (nx_ HO_21)) k_ hn_)), Or.elim hk_ (fun hs_ => hs_.1.1.1.1) (fun hn_ => (Kd.fresh' (Kd.N_lt (nx_ HO_22)) k_ hn_)), Or.elim hk_ (fun hs_ => hs_.1.1.2) (fun hn_ => (Kd.fresh' (Kd.N_lt (nx_ HO592)) k_ hn_)), Or.elim hk_ (fun hs_ => hs_.1.2) (fun hn_ => (Kd.fresh' (Kd.N_lt (nx_ HO595)) k_ hn_)), Or.elim hk_ (fun hs_ => hs_.2) (fun hn_ => (Kd.fresh' (Kd.N_lt (nx_ HO598)) k_ hn_))⟩)) (below_size (bx_ HB))); replace HO_21 := A_ (Kd.N_elder' (nx_ HO_21) (ba_ ho0) hb); replace HO_22 := A_ (Kd.N_elder' (nx_ HO_22) (ba_ ho0) hb); replace HO592 := A_ (Kd.N_elder' (nx_ HO592) (ba_ ho0) hb); replace HO595 := A_ (Kd.N_elder' (nx_ HO595) (ba_ ho0) hb); replace HO598 := A_ (Kd.N_elder' (nx_ HO598) (ba_ ho0) hb); replace HR589_0 := A_ (Kd.C_below (cx_ HR589_0) hb); replace HR599_0 := A_ (Kd.C_below (cx_ HR599_0) hb); replace HB := A_ (below_step (bx_ HB) hb)
           (try clear hb)
           (try clear hb2)
           (try clear hk)
           (try clear hi)
           (try clear ho0)
           obtain ⟨Ao99, co99, eo99⟩ := Kd.N_slice HO598.out
           (first | subst eo99 | (injection eo99 with f1_ f2_ f3_; have f4_ := f1_.symm; have f5_ := f3_.symm; clear f1_ f2_ f3_; subst f4_; subst f5_))
           obtain ⟨Ao100, co100, eo100⟩ := Kd.N_slice HO602.out
           (first | subst eo100 | (injection eo100 with f1_ f2_ f3_; have f4_ := f1_.symm; have f5_ := f3_.symm; clear f1_ f2_ f3_; subst f4_; subst f5_))
           refine hK.out _ _ ⟨HS0_, HS1_, HS2_, HS3_⟩ (fun hHeld => ?_); clear hK K; refine norm_ (a' := ?_) ?_ ?_; rotate_left
           ·show Act.put _ (some 134) _ = _
            simp only [Act.put, sA_, sB_, sC_, i64_w, i32_w]; rfl
           refine one_ (i := 12) (N := some 135) (B_ 29 8191) rfl rfl (one_of HT_.out (by kernel_rfl)) (by decide) (fun K hK => ?_); refine goes_ Try.func16 (by kernel_rfl) rfl #[.slice Ao99 t596.length co99, .slice Ao100 t600.length co100] (by rfl) rfl rfl lm_ ?_
           with_reducible refine (dioramaref36_SameAll.calls k2 _ _ t596 _ _ t600 true _ ?side1 ?side2 ?side3 ?side4 A84.out).mono ?_
           (case side1 => repeat (first | exact (Kd.N_reads' HO598.out).2.2 | (with_reducible refine Kd.C_alloc ?_ _) | (with_reducible refine Kd.C_drewN ?_ _) | (with_reducible refine Kd.C_drew ?_)))
           (case side2 => exact (Kd.N_reads' HO598.out).2.1)
           (case side3 => repeat (first | exact (Kd.N_reads' HO602.out).2.2 | (with_reducible refine Kd.C_alloc ?_ _) | (with_reducible refine Kd.C_drewN ?_ _) | (with_reducible refine Kd.C_drew ?_)))
           (case side4 => exact (Kd.N_reads' HO602.out).2.1)
           rintro e w101 ⟨rfl, hb⟩; have HS0_ := hd_ hb (hHeld.1); have HS1_ := hd_ hb (hHeld.2.1); have HS2_ := hd_ hb (hHeld.2.2.1); have HS3_ := hd_ hb (hHeld.2.2.2); refine ⟨_, rfl, ?_⟩; replace HO_21 := A_ (Kd.N_below (nx_ HO_21) hb); replace HO_22 := A_ (Kd.N_below (nx_ HO_22) hb); replace HL589_0 := A_ (Kd.V_below (vx_ HL589_0) hb); replace HL599_0 := A_ (Kd.V_below (vx_ HL599_0) hb); replace HO592 := A_ (Kd.N_below (nx_ HO592) hb); replace HO595 := A_ (Kd.N_below (nx_ HO595) hb); replace HO598 := A_ (Kd.N_below (nx_ HO598) hb); replace HO602 := A_ (Kd.N_below (nx_ HO602) hb); replace HR589_0 := A_ (Kd.C_below (cx_ HR589_0) hb); replace HR599_0 := A_ (Kd.C_below (cx_ HR599_0) hb); replace HB := A_ (below_step (bx_ HB) hb)
           (try clear hb)
           (try clear hb2)
           (try clear hk)
           (try clear hi)
           refine hK.out _ _ ⟨HS0_, HS1_, HS2_, HS3_⟩ (fun hHeld => ?_); clear hK K; refine norm_ (a' := ?_) ?_ ?_; rotate_left
           ·show Act.put _ (some 135) _ = _
            simp only [Act.put, sA_, sB_, sC_, i64_w, i32_w]; rfl
           refine pT_ 13 136 (B_ 29 16383) HT_ ?_; refine pT_ 14 137 (B_ 29 32767) HT_ ?_; refine pT_ 15 138 (B_ 29 65535) HT_ ?_; refine pT_ 16 139 (B_ 29 131071) HT_ ?_; refine pT_ 17 140 (B_ 29 262143) HT_ ?_; refine pT_ 21 144 (B_ 29 2359295) HT_ ?_; refine pT_ 22 145 (B_ 29 6553599) HT_ ?_; refine pT_ 23 146 (B_ 29 14942207) HT_ ?_; refine tT_ 18 141 (B_ 29 15204351) HT_ HW_ hHeld ?_; refine tT_ 24 147 (B_ 29 31981567) HT_ HW_ hHeld ?_; refine one_ (i := 19) (N := some 142) (B_ 29 32505855) rfl rfl (one_of HT_.out (by kernel_rfl)) (by decide) (fun K hK => ?_); refine goes_ Try.func22 (by kernel_rfl) rfl #[.slice A589_0 (rd_L7 y563 x23_1).length c589_0] (by rfl) rfl rfl lm_ ?_
           with_reducible refine (dioramalaw36_own.calls k2 (fun k_ => (((((some k_ ≠ (.slice Ao91 y569.length co91 : Value).ownBlock ∧ some k_ ≠ (.slice Ao94 t590.length co94 : Value).ownBlock) ∧ some k_ ≠ (.slice Ao96 t593.length co96 : Value).ownBlock) ∧ some k_ ≠ (.slice Ao99 t596.length co99 : Value).ownBlock) ∧ some k_ ≠ (.slice Ao100 t600.length co100 : Value).ownBlock) ∧ some k_ ≠ (.slice (some ad589) y563.length co42 : Value).ownBlock)) _ _ (rd_L7 y563 x23_1) t605 _ ?side1 A86.out).mono ?_
           (case side1 => exact Kd.V_map (Kd.V_mono HL589_0.out (fun k_ h_ => by simpa only [and_assoc, and_comm, and_left_comm] using h_)) (fun _ h => h))
           clear HL604_0 HR604_0; have HL604_0 := HL589_0; have HR604_0 := HR589_0; rintro e w102 ⟨v606, rfl, ho0, hb⟩; have HS0_ := hd_ hb (hHeld.1); have HS1_ := hd_ hb (hHeld.2.1); have HS2_ := hd_ hb (hHeld.2.2.1); have HS3_ := hd_ hb (hHeld.2.2.2); refine ⟨_, rfl, ?_⟩; replace HL589_0 := A_ (Kd.V_elder' (vx_ HL589_0) (ba_ ho0) hb); replace HL599_0 := A_ (Kd.V_elder' (vx_ HL599_0) (ba_ ho0) hb); replace HL604_0 := A_ (Kd.V_elder' (vx_ HL604_0) (ba_ ho0) hb); have HO607 := A_ (Kd.N_lower (Kd.N_mono (ok' := fun k_ => some k_ ≠ (.slice (some ad589) y563.length co42 : Value).ownBlock ∧ some k_ ≠ (.slice Ao91 y569.length co91 : Value).ownBlock ∧ some k_ ≠ (.slice Ao94 t590.length co94 : Value).ownBlock ∧ some k_ ≠ (.slice Ao96 t593.length co96 : Value).ownBlock ∧ some k_ ≠ (.slice Ao99 t596.length co99 : Value).ownBlock ∧ some k_ ≠ (.slice Ao100 t600.length co100 : Value).ownBlock) ho0 (fun k_ hk_ => ⟨Or.elim hk_ (fun hs_ => hs_.2) (fun hn_ => (Kd.fresh' (Kd.N_lt (nx_ HO_21)) k_ hn_)), Or.elim hk_ (fun hs_ => hs_.1.1.1.1.1) (fun hn_ => (Kd.fresh' (Kd.N_lt (nx_ HO_22)) k_ hn_)), Or.elim hk_ (fun hs_ => hs_.1.1.1.1.2) (fun hn_ => (Kd.fresh' (Kd.N_lt (nx_ HO592)) k_ hn_)), Or.elim hk_ (fun hs_ => hs_.1.1.1.2) (fun hn_ => (Kd.fresh' (Kd.N_lt (nx_ HO595)) k_ hn_)), Or.elim hk_ (fun hs_ => hs_.1.1.2) (fun hn_ => (Kd.fresh' (Kd.N_lt (nx_ HO598)) k_ hn_)), Or.elim hk_ (fun hs_ => hs_.1.2) (fun hn_ => (Kd.fresh' (Kd.N_lt (nx_ HO602)) k_ hn_))⟩)) (below_size (bx_ HB))); replace HO_21 := A_ (Kd.N_elder' (nx_ HO_21) (ba_ ho0) hb); replace HO_22 := A_ (Kd.N_elder' (nx_ HO_22) (ba_ ho0) hb); replace HO592 := A_ (Kd.N_elder' (nx_ HO592) (ba_ ho0) hb); replace HO595 := A_ (Kd.N_elder' (nx_ HO595) (ba_ ho0) hb); replace HO598 := A_ (Kd.N_elder' (nx_ HO598) (ba_ ho0) hb); replace HO602 := A_ (Kd.N_elder' (nx_ HO602) (ba_ ho0) hb); replace HR589_0 := A_ (Kd.C_below (cx_ HR589_0) hb); replace HR599_0 := A_ (Kd.C_below (cx_ HR599_0) hb); replace HR604_0 := A_ (Kd.C_below (cx_ HR604_0) hb); replace HB := A_ (below_step (bx_ HB) hb)
           (try clear hb)
           (try clear hb2)
           (try clear hk)
           (try clear hi)
           (try clear ho0)
           obtain ⟨Ao103, co103, eo103⟩ := Kd.N_slice HO607.out
           (first | subst eo103 | (injection eo103 with f1_ f2_ f3_; have f4_ := f1_.symm; have f5_ := f3_.symm; clear f1_ f2_ f3_; subst f4_; subst f5_))
           refine hK.out _ _ ⟨HS0_, HS1_, HS2_, HS3_⟩ (fun hHeld => ?_); clear hK K; refine norm_ (a' := ?_) ?_ ?_; rotate_left
           ·show Act.put _ (some 142) _ = _
            simp only [Act.put, sA_, sB_, sC_, i64_w, i32_w]; rfl
           refine one_ (i := 20) (N := some 143) (B_ 29 33554431) rfl rfl (one_of HT_.out (by kernel_rfl)) (by decide) (fun K hK => ?_); refine goes_ Try.func27 (by kernel_rfl) rfl #[.slice Ao103 t605.length co103] (by rfl) rfl rfl lm_ ?_
           with_reducible refine (diff_Encode.calls k2 _ _ t605 t608 _ ?side1 ?side2 A87.out).mono ?_
           (case side1 => repeat (first | exact (Kd.N_reads' HO607.out).2.2 | (with_reducible refine Kd.C_alloc ?_ _) | (with_reducible refine Kd.C_drewN ?_ _) | (with_reducible refine Kd.C_drew ?_)))
           (case side2 => exact (Kd.N_reads' HO607.out).2.1)
           rintro e w104 ⟨v609, rfl, ho0, hb⟩; have HS0_ := hd_ hb (hHeld.1); have HS1_ := hd_ hb (hHeld.2.1); have HS2_ := hd_ hb (hHeld.2.2.1); have HS3_ := hd_ hb (hHeld.2.2.2); refine ⟨_, rfl, ?_⟩; replace HO_21 := A_ (Kd.N_elder' (nx_ HO_21) (Kd.R_base ho0) hb); replace HO_22 := A_ (Kd.N_elder' (nx_ HO_22) (Kd.R_base ho0) hb); replace HL589_0 := A_ (Kd.V_elder' (vx_ HL589_0) (Kd.R_base ho0) hb); replace HL599_0 := A_ (Kd.V_elder' (vx_ HL599_0) (Kd.R_base ho0) hb); replace HO592 := A_ (Kd.N_elder' (nx_ HO592) (Kd.R_base ho0) hb); replace HO595 := A_ (Kd.N_elder' (nx_ HO595) (Kd.R_base ho0) hb); replace HO598 := A_ (Kd.N_elder' (nx_ HO598) (Kd.R_base ho0) hb); replace HO602 := A_ (Kd.N_elder' (nx_ HO602) (Kd.R_base ho0) hb); replace HL604_0 := A_ (Kd.V_elder' (vx_ HL604_0) (Kd.R_base ho0) hb); replace HO607 := A_ (Kd.N_elder' (nx_ HO607) (Kd.R_base ho0) hb); have HO610 := A_ (Kd.R_lower ho0 (below_size (bx_ HB))); replace HR589_0 := A_ (Kd.C_below (cx_ HR589_0) hb); replace HR599_0 := A_ (Kd.C_below (cx_ HR599_0) hb); replace HR604_0 := A_ (Kd.C_below (cx_ HR604_0) hb); replace HB := A_ (below_step (bx_ HB) hb)
           (try clear hb)
           (try clear hb2)
           (try clear hk)
           (try clear hi)
           (try clear ho0)
           refine hK.out _ _ ⟨HS0_, HS1_, HS2_, HS3_⟩ (fun hHeld => ?_); clear hK K; refine norm_ (a' := ?_) ?_ ?_; rotate_left
           ·show Act.put _ (some 143) _ = _
            simp only [Act.put, sA_, sB_, sC_, i64_w, i32_w]; rfl
           refine one_ (i := 25) (N := some 148) (B_ 29 67108863) rfl rfl (one_of HT_.out (by kernel_rfl)) (by decide) (fun K hK => ?_); refine goes_ Try.func28 (by kernel_rfl) rfl #[.slice A589_0 (rd_L7 y563 x23_1).length c589_0] (by rfl) rfl rfl lm_ ?_; clear HL611_0 HR611_0; have HL611_0 := HL589_0; have HR611_0 := HR589_0
           with_reducible refine (dioramaref36_Encode.calls k2 _ _ (rd_L7 y563 x23_1) t612 _ ?side1 ?side2 A88.out).mono ?_
           (case side1 => repeat (first | exact (cx_ HR611_0) | (with_reducible refine Kd.C_alloc ?_ _) | (with_reducible refine Kd.C_drewN ?_ _) | (with_reducible refine Kd.C_drew ?_)))
           (case side2 => exact HC611_0.out)
           rintro e w105 ⟨v613, rfl, ho0, hb⟩; have HS0_ := hd_ hb (hHeld.1); have HS1_ := hd_ hb (hHeld.2.1); have HS2_ := hd_ hb (hHeld.2.2.1); have HS3_ := hd_ hb (hHeld.2.2.2); refine ⟨_, rfl, ?_⟩; replace HO_21 := A_ (Kd.N_elder' (nx_ HO_21) (Kd.R_base ho0) hb); replace HO_22 := A_ (Kd.N_elder' (nx_ HO_22) (Kd.R_base ho0) hb); replace HL589_0 := A_ (Kd.V_elder' (vx_ HL589_0) (Kd.R_base ho0) hb); replace HL599_0 := A_ (Kd.V_elder' (vx_ HL599_0) (Kd.R_base ho0) hb); replace HO592 := A_ (Kd.N_elder' (nx_ HO592) (Kd.R_base ho0) hb); replace HO595 := A_ (Kd.N_elder' (nx_ HO595) (Kd.R_base ho0) hb); replace HO598 := A_ (Kd.N_elder' (nx_ HO598) (Kd.R_base ho0) hb); replace HO602 := A_ (Kd.N_elder' (nx_ HO602) (Kd.R_base ho0) hb); replace HL604_0 := A_ (Kd.V_elder' (vx_ HL604_0) (Kd.R_base ho0) hb); replace HO607 := A_ (Kd.N_elder' (nx_ HO607) (Kd.R_base ho0) hb); replace HL611_0 := A_ (Kd.V_elder' (vx_ HL611_0) (Kd.R_base ho0) hb); have HO614 := A_ (Kd.R_lower (Kd.R_new' ho0 (Kd.R_lt (rx_ HO610))) (below_size (bx_ HB))); replace HO610 := A_ (Kd.R_elder' (rx_ HO610) (Kd.R_base ho0) hb); replace HR589_0 := A_ (Kd.C_below (cx_ HR589_0) hb); replace HR599_0 := A_ (Kd.C_below (cx_ HR599_0) hb); replace HR604_0 := A_ (Kd.C_below (cx_ HR604_0) hb); replace HR611_0 := A_ (Kd.C_below (cx_ HR611_0) hb); replace HB := A_ (below_step (bx_ HB) hb)
           (try clear hb)
           (try clear hb2)
           (try clear hk)
           (try clear hi)
           (try clear ho0)
           obtain ⟨Ao106, co106, eo106⟩ := Kd.R_slice HO610.out
           (first | subst eo106 | (injection eo106 with f1_ f2_ f3_; have f4_ := f1_.symm; have f5_ := f3_.symm; clear f1_ f2_ f3_; subst f4_; subst f5_))
           obtain ⟨Ao107, co107, eo107⟩ := Kd.R_slice HO614.out
           (first | subst eo107 | (injection eo107 with f1_ f2_ f3_; have f4_ := f1_.symm; have f5_ := f3_.symm; clear f1_ f2_ f3_; subst f4_; subst f5_))
           refine hK.out _ _ ⟨HS0_, HS1_, HS2_, HS3_⟩ (fun hHeld => ?_); clear hK K; refine norm_ (a' := ?_) ?_ ?_; rotate_left
           ·show Act.put _ (some 148) _ = _
            simp only [Act.put, sA_, sB_, sC_, i64_w, i32_w]; rfl
           refine one_ (i := 26) (N := some 149) (B_ 29 134217727) rfl rfl (one_of HT_.out (by kernel_rfl)) (by decide) (fun K hK => ?_); refine goes_ Try.func26 (by kernel_rfl) rfl #[.slice Ao106 t608.length co106, .slice Ao107 t612.length co107] (by rfl) rfl rfl lm_ ?_
           with_reducible refine (dioramaref01_Same.calls k2 _ _ t608 _ _ t612 true _ ?side1 ?side2 ?side3 ?side4 A89.out).mono ?_
           (case side1 => repeat (first | exact (Kd.R_reads' HO610.out).2.2 | (with_reducible refine Kd.C_alloc ?_ _) | (with_reducible refine Kd.C_drewN ?_ _) | (with_reducible refine Kd.C_drew ?_)))
           (case side2 => exact (Kd.R_reads' HO610.out).2.1)
           (case side3 => repeat (first | exact (Kd.R_reads' HO614.out).2.2 | (with_reducible refine Kd.C_alloc ?_ _) | (with_reducible refine Kd.C_drewN ?_ _) | (with_reducible refine Kd.C_drew ?_)))
           (case side4 => exact (Kd.R_reads' HO614.out).2.1)
           rintro e w' ⟨rfl, ⟨nd, rfl⟩⟩; refine ⟨_, rfl, ?_⟩; refine hK.out _ _ ⟨hHeld.1, hHeld.2.1, hHeld.2.2.1, hHeld.2.2.2⟩ (fun hHeld => ?_); clear hK K; refine norm_ (a' := ?_) ?_ ?_; rotate_left
           ·show Act.put _ (some 149) _ = _
            simp only [Act.put, sA_, sB_, sC_, i64_w, i32_w]; rfl
           refine pT_ 27 150 (B_ 29 268435455) HT_ ?_; refine pT_ 28 151 (B_ 29 536870911) HT_ ?_; refine done_ (done_of HT_.out (by kernel_rfl)) ?_
           try go_wp2
           go_roundg k2
           case measure => have := HK1.out; have := HK2.out; omega
           case rel => exact ⟨(wrap64 (x23_1 + 1)), rf_, H', ⟨by have := HK1.out; have := HK2.out; omega⟩, ⟨by (with_reducible repeat (first | apply Kd.N_alloc | apply Kd.N_drewN | apply Kd.N_drew)); exact Kd.N_mono HO_21.out (fun _ hk => hk.1.1.1.1.1.1.1)⟩, ⟨by (with_reducible repeat (first | apply Kd.N_alloc | apply Kd.N_drewN | apply Kd.N_drew)); exact Kd.N_mono HO_22.out (fun _ hk => hk.1.1.1.1.1.1.1)⟩, ⟨bx_ HB⟩⟩
          ·replace c90 := Bool.eq_false_iff.mpr c90
           subst c90
           have H1 : (some false) = some r := by rw [if_neg (show ¬ (false = true) by decide)] at H; exact H
           clear H; have H := H1; clear H1; exact absurd ((Option.some.inj H).trans HT9_.out) (by simp)
         ·replace c85 := Bool.eq_false_iff.mpr c85
          subst c85
          have H1 : (some false) = some r := by rw [if_neg (show ¬ (false = true) by decide)] at H; exact H
          clear H; have H := H1; clear H1; exact absurd ((Option.some.inj H).trans HT9_.out) (by simp)
        (· rw [if_neg c79] at H; exact absurd H (by simp))
       (· rw [if_neg c78] at H; exact absurd H (by simp))
   ·rw [if_neg c41] at H
    have c41b0 := decide_eq_false c41; clear c41; replace H := Option.bind_eq_some_iff.mp H; obtain ⟨t572, A1360, H⟩ := H
    (try dsimp only at H)
    have A136 := A_ A1360; clear A1360; obtain rfl := Option.some.inj H; obtain ⟨Ao137, co137, eo137⟩ := Kd.N_slice HO_21.out; subst eo137
    go_wp2_with (first | ((with_reducible refine gate_callee (f := 18) rfl ?_); refine goesL_ (some 152) rfl rfl Try.func18 (by kernel_rfl) rfl #[] rfl lm_ ?_; (with_reducible refine (dioramalaw36_lives.calls  t572 _ A136.out).mono ?_); rintro e w138 ⟨rfl, hb⟩; refine ⟨_, rfl, ?_⟩; replace HO_21 := A_ (Kd.N_below (nx_ HO_21) hb); replace HO_22 := A_ (Kd.N_below (nx_ HO_22) hb); replace HB := A_ (below_step (bx_ HB) hb); (try clear hb); (try clear hb2); (try clear hk); (try clear hi)))
    go_ret; exact ⟨ew_, bx_ HB⟩
def dioramalaw36_DiffApplies.Pure : Prop := ∀ (l0 : List Int) (l1 : List Int) (l2 : List Int) (a3 : Int) (a4 : Int) (a5 : Int), l0.length ≤ maxLen → l0.length * 8 ≤ 140737488351232 → (∀ x ∈ l0, (Lit.int .i64 x).wf = true) → l1.length ≤ maxLen → l1.length * 8 ≤ 140737488351232 → (∀ x ∈ l1, (Lit.int .i64 x).wf = true) → l2.length ≤ maxLen → l2.length * 8 ≤ 140737488351232 → (∀ x ∈ l2, (Lit.int .i64 x).wf = true) → (Lit.int .i64 a3).wf = true → (Lit.int .i64 a4).wf = true → (Lit.int .i64 a5).wf = true → ∃ k, dioramalaw36_DiffApplies.f k l0 l1 l2 a3 a4 a5 = some true
theorem dioramalaw36_DiffApplies.walk (P : dioramalaw36_DiffApplies.Pure) (a0 : Option Addr) (len0 cap0 : Nat) (z0 : List Int) (a1 : Option Addr) (len1 cap1 : Nat) (z1 : List Int) (a2 : Option Addr) (len2 cap2 : Nat) (z2 : List Int) (a3 : Int) (a4 : Int) (a5 : Int) (w : World) (w0 : (a0 = none ∧ len0 = 0 ∧ cap0 = 0 ∧ z0 = []) ∨ ∃ x, a0 = some x ∧ len0 ≤ cap0 ∧ cap0 ≤ maxLen ∧ z0.length = cap0 ∧ (∀ i, i < z0.length → w.cell? (x.add i) = some (.int .i64 (z0.getD i 0))) ∧ ∀ n ∈ z0, (Lit.int .i64 n).wf = true) (y0 : len0 * 8 ≤ 140737488351232) (w1 : (a1 = none ∧ len1 = 0 ∧ cap1 = 0 ∧ z1 = []) ∨ ∃ x, a1 = some x ∧ len1 ≤ cap1 ∧ cap1 ≤ maxLen ∧ z1.length = cap1 ∧ (∀ i, i < z1.length → w.cell? (x.add i) = some (.int .i64 (z1.getD i 0))) ∧ ∀ n ∈ z1, (Lit.int .i64 n).wf = true) (y1 : len1 * 8 ≤ 140737488351232) (w2 : (a2 = none ∧ len2 = 0 ∧ cap2 = 0 ∧ z2 = []) ∨ ∃ x, a2 = some x ∧ len2 ≤ cap2 ∧ cap2 ≤ maxLen ∧ z2.length = cap2 ∧ (∀ i, i < z2.length → w.cell? (x.add i) = some (.int .i64 (z2.getD i 0))) ∧ ∀ n ∈ z2, (Lit.int .i64 n).wf = true) (y2 : len2 * 8 ≤ 140737488351232) (w3 : (Lit.int .i64 a3).wf = true) (w4 : (Lit.int .i64 a4).wf = true) (w5 : (Lit.int .i64 a5).wf = true) :
  Calls Try.prog 6 #[.slice a0 len0 cap0, .slice a1 len1 cap1, .slice a2 len2 cap2, .int .i64 a3, .int .i64 a4, .int .i64 a5] w fun e w' => e = .returned (.bool true) ∧ Below w.heap.size w w' := by
 obtain ⟨l0, rfl, hr0, hm0, hw0, hc0⟩ := ReadsInt.ofRowC w0; obtain ⟨l1, rfl, hr1, hm1, hw1, hc1⟩ := ReadsInt.ofRowC w1; obtain ⟨l2, rfl, hr2, hm2, hw2, hc2⟩ := ReadsInt.ofRowC w2; obtain ⟨k, h⟩ := P l0 l1 l2 a3 a4 a5 hm0 y0 hw0 hm1 y1 hw1 hm2 y2 hw2 w3 w4 w5; refine (dioramalaw36_DiffApplies.calls k _ _ l0 _ _ l1 _ _ l2 a3 a4 a5 true w (Kd.C_of_reads (d := (0 : Int)) (h1 := fun _ => rfl) hr0) hc0 (Kd.C_of_reads (d := (0 : Int)) (h1 := fun _ => rfl) hr1) hc1 (Kd.C_of_reads (d := (0 : Int)) (h1 := fun _ => rfl) hr2) hc2 h rfl).mono ?_; rintro e w' ⟨rfl, hd⟩; exact ⟨rfl, hd⟩
end Go.Proofs.Ytcgpemefmakjiaa.PX
namespace Go.Proofs.Ytcgpemefmakjiaa.PX
open Go.RowKit Go.Proofs.YtcgpemefmakjiaaW.PrintWords Go.Proofs.YtcgpemefmakjiaaW.PrintLast Go.Proofs.YtcgpemefmakjiaaW.PrintMore
section
variable (kind : Int) (a b : List (List Int)) (s : Nat) {R : List S76 → Prop}
theorem list_l1 (base : List S76) (i : Nat) (hia : i < a.length) (hib : i < b.length) (hw : (rd_L1 a i).length ≤ (rd_L1 b i).length) (hbd : base.length + (rd_L1 a i).length ≤ 1000000000000)
  (hg : EvP (fun k => dioramaref36_List.l0 k kind a b s (base ++ (setRow kind i (rd_L1 a i) (rd_L1 b i) (rd_L1 a i).length).map toRef) (wrap64 ((i : Int) + 1))) R) :
  ∀ n j : Nat, j + n = (rd_L1 a i).length → EvP (fun k => dioramaref36_List.l1 k kind a b s (base ++ (setRow kind i (rd_L1 a i) (rd_L1 b i) j).map toRef) i j) R
 | 0, j, h => by
  refine EvP.step (fun k => by rw [dioramaref36_List.l1]) ?_; refine EvP.pos (by omega) (EvP.pos (by omega) (EvP.neg (by omega) ?_))
  have e : j = (rd_L1 a i).length := by omega
  rw [e]; exact hg
 | n + 1, j, h => by
  have ih := list_l1 base i hia hib hw hbd hg n (j + 1) (by omega); have hlen := setRow_le kind i (rd_L1 a i) (rd_L1 b i) j; refine EvP.step (fun k => by rw [dioramaref36_List.l1]) ?_; refine EvP.pos (by omega) (EvP.pos (by omega) (EvP.pos (by omega) (EvP.pos (by omega) (EvP.pos (by omega) (EvP.pos (by omega) ?_))))); rw [w64s j (by omega)]; rw [setRow_snoc, List.map_append, ← List.append_assoc] at ih
  by_cases he : rd (rd_L1 a i) j = rd (rd_L1 b i) j
  (· refine EvP.pos he ?_; have e : setAt kind i (rd_L1 a i) (rd_L1 b i) j = [] := if_pos he.symm; rw [e, List.map_nil, List.append_nil] at ih; exact ih); (· refine EvP.neg he (EvP.pos (by rw [List.length_append, List.length_map]; omega) ?_); have e : setAt kind i (rd_L1 a i) (rd_L1 b i) j = [⟨kind, i, j, rd (rd_L1 a i) j, rd (rd_L1 b i) j, []⟩] := if_neg (fun e => he e.symm); rw [e] at ih; exact ih)
theorem list_l0 (hsa : s ≤ a.length) (hsb : s ≤ b.length) (hs : s ≤ 4611686018427387904) (hw : ∀ i : Nat, i < s → (rd_L1 a i).length ≤ (rd_L1 b i).length ∧ (rd_L1 a i).length ≤ 100000) (hbd : (setAll kind a b s).length ≤ 900000000000)
  (hmon : ∀ i : Nat, i ≤ s → (setAll kind a b i).length ≤ (setAll kind a b s).length)
  (hg : EvP (fun k => dioramaref36_List.l2 k kind a b s ((setAll kind a b s).map toRef) (wrap64 ((a.length : Int) - 1))) R) :
  ∀ n i : Nat, i + n = s → EvP (fun k => dioramaref36_List.l0 k kind a b s ((setAll kind a b i).map toRef) i) R
 | 0, i, h => by
  refine EvP.step (fun k => by rw [dioramaref36_List.l0]) ?_; refine EvP.neg (by omega) ?_
  have e : i = s := by omega
  rw [e]; exact hg
 | n + 1, i, h => by
  have ih := list_l0 hsa hsb hs hw hbd hmon hg n (i + 1) (by omega); have h1 := hw i (by omega); have h2 := hmon i (by omega); refine EvP.step (fun k => by rw [dioramaref36_List.l0]) ?_; refine EvP.pos (by omega) ?_; have := list_l1 kind a b s (R := R) ((setAll kind a b i).map toRef) i (by omega) (by omega) h1.1 (by rw [List.length_map]; omega) ?_ (rd_L1 a i).length 0 (by omega)
  ·simpa [setRow] using this
  (· rw [w64s i (by omega)]; rw [setAll_snoc, List.map_append] at ih; exact ih)
theorem list_l2 (base : List S76) (hsa : s ≤ a.length) (ha : a.length ≤ 4000000000) (hbase : base.length ≤ 1000000000000)
  (hg : EvP (fun k => dioramaref36_List.l3 k kind b (base ++ (takeL kind a (a.length - s)).map toRef) s) R) :
  ∀ n j : Nat, j + n = a.length - s → EvP (fun k => dioramaref36_List.l2 k kind a b s (base ++ (takeL kind a j).map toRef) ((a.length : Int) - 1 - j)) R
 | 0, j, h => by
  refine EvP.step (fun k => by rw [dioramaref36_List.l2]) ?_; refine EvP.neg (by omega) ?_
  have e : j = a.length - s := by omega
  rw [e]; exact hg
 | n + 1, j, h => by
  have ih := list_l2 base hsa ha hbase hg n (j + 1) (by omega); refine EvP.step (fun k => by rw [dioramaref36_List.l2]) ?_; refine EvP.pos (by omega) (EvP.pos (by omega) (EvP.pos (by omega) (EvP.pos (by simp [takeL]; omega) ?_))); rw [w64 (by omega) (by omega)]; rw [takeL_snoc, List.map_append, ← List.append_assoc] at ih; rw [show (a.length : Int) - 1 - j - 1 = (a.length : Int) - 1 - ((j + 1 : Nat) : Int) by omega]; exact ih
theorem list_l3 (base : List S76) (hsb : s ≤ b.length) (hb : b.length ≤ 4000000000) (hbase : base.length ≤ 1100000000000)
  (hg : R (base ++ (addL kind b s (b.length - s)).map toRef)) :
  ∀ n j : Nat, j + n = b.length - s → EvP (fun k => dioramaref36_List.l3 k kind b (base ++ (addL kind b s j).map toRef) ((s + j : Nat) : Int)) R
 | 0, j, h => by
  refine EvP.step (fun k => by rw [dioramaref36_List.l3]) ?_; refine EvP.neg (by omega) ?_
  have e : j = b.length - s := by omega
  rw [e]; exact EvP.const hg
 | n + 1, j, h => by
  have ih := list_l3 base hsb hb hbase hg n (j + 1) (by omega); refine EvP.step (fun k => by rw [dioramaref36_List.l3]) ?_; refine EvP.pos (by omega) (EvP.pos (by omega) (EvP.pos (by simp [addL]; omega) ?_)); rw [w64s (s + j) (by omega)]; rw [addL_snoc, List.map_append, ← List.append_assoc] at ih
  have e : (s : Int) + (j : Int) = ((s + j : Nat) : Int) := by omega
  rw [e] at ih; exact ih
end
theorem setAll_mono (kind : Int) (a b : List (List Int)) {i s : Nat} (h : i ≤ s) : (setAll kind a b i).length ≤ (setAll kind a b s).length := by
 induction s with
 | zero => rw [show i = 0 by omega]; exact Nat.le_refl _
 | succ s ih =>
  by_cases e : i = s + 1
  (· rw [e]; exact Nat.le_refl _); (· have := ih (by omega); rw [setAll_snoc kind a b s, List.length_append]; omega)
theorem list_ev (kind : Int) (a b : List (List Int)) (s : Nat) (hsa : s ≤ a.length) (hsb : s ≤ b.length) (ha : a.length ≤ 1000000) (hb : b.length ≤ 1000000) (hw : ∀ i : Nat, i < s → (rd_L1 a i).length ≤ (rd_L1 b i).length ∧ (rd_L1 a i).length ≤ 100000) :
  Ev (fun k => dioramaref36_List.f k kind a b s) ((chgs kind a b s).map toRef) := by
 have hbd : (setAll kind a b s).length ≤ 100000 * s := setAll_le kind a b s (fun i hi => (hw i hi).2); unfold dioramaref36_List.f; have h3 := list_l3 kind b s (R := fun x => x = (chgs kind a b s).map toRef) ((setAll kind a b s).map toRef ++ (takeL kind a (a.length - s)).map toRef) hsb (by omega) (by simp [takeL]; omega) (by simp [chgs]) (b.length - s) 0 (by omega); have h2 := list_l2 kind a b s (R := fun x => x = (chgs kind a b s).map toRef) ((setAll kind a b s).map toRef) hsa (by omega) (by simp; omega) (by simpa [addL] using h3) (a.length - s) 0 (by omega)
 have h0 := list_l0 kind a b s (R := fun x => x = (chgs kind a b s).map toRef) hsa hsb (by omega) hw (by omega) (fun i hi => setAll_mono kind a b hi) (by
  rw [w64 (by omega) (by omega)]
  simpa [takeL] using h2) s 0 (by omega)
 simpa [setAll] using h0
theorem chgs_len (kind : Int) (a b : List (List Int)) (m : Nat) : (chgs kind a b m).length = setsN a b m + (a.length - m) + (b.length - m) := by
 unfold chgs setsN; rw [List.length_append, List.length_append, setAll_len kind 0]
 simp [takeL, addL]
theorem bestOf_chgs (kind : Int) (a b : List (List Int)) : ∀ n : Nat, n ≤ min a.length b.length → (bestOf a b n).1 = ((chgs kind a b (bestOf a b n).2).length : Int)
 | 0, _ => by
  rw [chgs_len]
  simp [bestOf, setsN, setAll]
 | n + 1, h => by
  have ih := bestOf_chgs kind a b n (by omega); rw [bestOf_succ]
  split
  (· simp only [chgs_len]; omega); (· exact ih)
section
variable (l0 l1 : List (List (List Int))) {R : List S76 × Int → Prop}
theorem diff_l1 (x6 : List S76) (n : Nat) (h0 : n < l0.length) (h1 : n < l1.length) (ha : (rd_L2 l0 n).length ≤ 1000000) (hb : (rd_L2 l1 n).length ≤ 1000000)
  (hw : ∀ i : Nat, i < min (rd_L2 l0 n).length (rd_L2 l1 n).length → (rd_L1 (rd_L2 l0 n) i).length ≤ (rd_L1 (rd_L2 l1 n) i).length ∧ (rd_L1 (rd_L2 l0 n) i).length ≤ 100000)
  (hbd : x6.length + (chgs n (rd_L2 l0 n) (rd_L2 l1 n) (sameM (rd_L2 l0 n) (rd_L2 l1 n))).length < 2199023255552)
  (hg : EvP (fun k => dioramaref36_Diff.l0 k l0 l1 (x6 ++ (chgs n (rd_L2 l0 n) (rd_L2 l1 n) (sameM (rd_L2 l0 n) (rd_L2 l1 n))).map toRef) (wrap64 ((n : Int) + 1))) R) :
  ∀ m i : Nat, i + m = min (rd_L2 l0 n).length (rd_L2 l1 n).length → EvP (fun k => dioramaref36_Diff.l1 k l0 l1 x6 n ((chgs n (rd_L2 l0 n) (rd_L2 l1 n) (bestOf (rd_L2 l0 n) (rd_L2 l1 n) i).2).map toRef) ((i + 1 : Nat) : Int)) R := by
 have hj5 : ∀ x9 : Int, EvP (fun k => dioramaref36_Diff.j5 k l0 l1 x6 n ((chgs n (rd_L2 l0 n) (rd_L2 l1 n) (sameM (rd_L2 l0 n) (rd_L2 l1 n))).map toRef) x9 false) R := fun x9 => by
  refine EvP.step (fun k => by rw [dioramaref36_Diff.j5]) ?_; refine EvP.neg (by simp) (EvP.pos (by rw [List.length_map]; exact hbd) ?_); exact hg
 intro m
 induction m with
 | zero =>
  intro i h
  have e : i = min (rd_L2 l0 n).length (rd_L2 l1 n).length := by omega
  have e2 : (bestOf (rd_L2 l0 n) (rd_L2 l1 n) i).2 = sameM (rd_L2 l0 n) (rd_L2 l1 n) := by rw [e]; rfl
  rw [e2]; refine EvP.step (fun k => by rw [dioramaref36_Diff.l1]) ?_; refine EvP.pos (by omega) (EvP.pos (by omega) ?_)
  by_cases hle : ((i + 1 : Nat) : Int) ≤ ((rd_L2 l0 n).length : Int)
  (· refine EvP.pos hle (EvP.pos (by omega) ?_); rw [decide_eq_false (show ¬((i + 1 : Nat) : Int) ≤ ((rd_L2 l1 n).length : Int) by omega)]; exact hj5 _); (· exact EvP.neg hle (hj5 _))
 | succ m ih =>
  intro i h; have ih := ih (i + 1) (by omega); refine EvP.step (fun k => by rw [dioramaref36_Diff.l1]) ?_; refine EvP.pos (by omega) (EvP.pos (by omega) (EvP.pos (by omega) (EvP.pos (by omega) ?_))); rw [decide_eq_true (show ((i + 1 : Nat) : Int) ≤ ((rd_L2 l1 n).length : Int) by omega)]; refine EvP.step (fun k => by rw [dioramaref36_Diff.j5]) ?_; refine EvP.pos rfl (EvP.pos (by omega) (EvP.pos (by omega) (EvP.pos (by omega) ?_))); refine Ev.bind (list_ev n (rd_L2 l0 n) (rd_L2 l1 n) (i + 1) (by omega) (by omega) ha hb (fun q hq => hw q (by omega))) ?_; have hbc := bestOf_chgs n (rd_L2 l0 n) (rd_L2 l1 n) i (by omega); have hcl := chgs_len n (rd_L2 l0 n) (rd_L2 l1 n) (i + 1); rw [bestOf_succ] at ih; rw [w64s (i + 1) (by omega)]
  by_cases hc : (setsN (rd_L2 l0 n) (rd_L2 l1 n) (i + 1) : Int) + (rd_L2 l0 n).length + (rd_L2 l1 n).length - 2 * ((i : Int) + 1) ≤ (bestOf (rd_L2 l0 n) (rd_L2 l1 n) i).1
  (· rw [if_pos hc] at ih; refine EvP.pos (by rw [List.length_map, List.length_map]; omega) ih); (· rw [if_neg hc] at ih; refine EvP.neg (by rw [List.length_map, List.length_map]; omega) ih)
theorem diff_j3 (x6 : List S76) (n : Nat) (h0 : n < l0.length) (h1 : n < l1.length) (ha : (rd_L2 l0 n).length ≤ 1000000) (hb : (rd_L2 l1 n).length ≤ 1000000)
  (hw : ∀ i : Nat, i < min (rd_L2 l0 n).length (rd_L2 l1 n).length → (rd_L1 (rd_L2 l0 n) i).length ≤ (rd_L1 (rd_L2 l1 n) i).length ∧ (rd_L1 (rd_L2 l0 n) i).length ≤ 100000)
  (hbd : x6.length + (chgs n (rd_L2 l0 n) (rd_L2 l1 n) (sameM (rd_L2 l0 n) (rd_L2 l1 n))).length < 2199023255552)
  (hg : EvP (fun k => dioramaref36_Diff.l0 k l0 l1 (x6 ++ (chgs n (rd_L2 l0 n) (rd_L2 l1 n) (sameM (rd_L2 l0 n) (rd_L2 l1 n))).map toRef) (wrap64 ((n : Int) + 1))) R) :
  EvP (fun k => dioramaref36_Diff.j3 k l0 l1 x6 n) R := by
 refine EvP.step (fun k => by rw [dioramaref36_Diff.j3]) ?_; refine EvP.pos (by omega) (EvP.pos (by omega) (EvP.pos (by omega) ?_)); refine Ev.bind (list_ev n (rd_L2 l0 n) (rd_L2 l1 n) 0 (by omega) (by omega) ha hb (fun q hq => by omega)) ?_; exact diff_l1 l0 l1 x6 n h0 h1 ha hb hw hbd hg (min (rd_L2 l0 n).length (rd_L2 l1 n).length) 0 (by omega)
theorem okK_rows (hs0 : shapedB l0 = true) (hs1 : shapedB l1 = true) (n : Nat) (h0 : n < l0.length) (h1 : n < l1.length) (hk : okK l0 l1 n = true) :
  ∀ i : Nat, i < min (rd_L2 l0 n).length (rd_L2 l1 n).length → (rd_L1 (rd_L2 l0 n) i).length ≤ (rd_L1 (rd_L2 l1 n) i).length ∧ (rd_L1 (rd_L2 l0 n) i).length ≤ 100000 := fun i hi => by
 have ra := (shaped_row hs0 n h0).2 i (by omega); have rb := (shaped_row hs1 n h1).2 i (by omega)
 have e : (rd_L1 (rd_L2 l0 n) 0).length = (rd_L1 (rd_L2 l1 n) 0).length := by
  unfold okK at hk; rw [decide_eq_true (show 0 < (rd_L2 l0 n).length by omega), decide_eq_true (show 0 < (rd_L2 l1 n).length by omega)] at hk
  simpa using hk
 omega
theorem diff_l0 (hs0 : shapedB l0 = true) (hs1 : shapedB l1 = true) (hl : l0.length = l1.length) : ∀ m n : Nat, n + m = l0.length → (∀ i, i < n → okK l0 l1 i = true) →
  Ev (fun k => dioramaref36_Diff.l0 k l0 l1 ((diffL l0 l1 n).map toRef) n) (if (List.range l0.length).all (okK l0 l1) = true then ((diffL l0 l1 l0.length).map toRef, 0) else ([], 2))
 | 0, n, h, hok => by
  refine EvP.step (fun k => by rw [dioramaref36_Diff.l0]) ?_; refine EvP.neg (by omega) ?_
  have e : n = l0.length := by omega
  have hall : (List.range l0.length).all (okK l0 l1) = true := by
   rw [List.all_eq_true]; intro i hi; exact hok i (by rw [List.mem_range] at hi; omega)
  rw [e, if_pos hall]; exact EvP.const rfl
 | m + 1, n, h, hok => by
  have h0 : n < l0.length := by omega
  have h1 : n < l1.length := by omega
  have ra := (shaped_row hs0 n h0).1; have rb := (shaped_row hs1 n h1).1; have h6 := shaped_six hs0
  have hj3 : okK l0 l1 n = true → EvP (fun k => dioramaref36_Diff.j3 k l0 l1 ((diffL l0 l1 n).map toRef) n) (fun x => x = if (List.range l0.length).all (okK l0 l1) = true then ((diffL l0 l1 l0.length).map toRef, 0) else ([], 2)) := fun hk => by
   have hbd := diffL_le hs0 hs1 (n + 1) (by omega) (by omega); rw [diffL_snoc, List.length_append] at hbd
   have ih := diff_l0 hs0 hs1 hl m (n + 1) (by omega) (fun i hi => by
    by_cases e : i = n
    (· rw [e]; exact hk)
    ·exact hok i (by omega))
   refine diff_j3 l0 l1 _ n h0 h1 (by omega) (by omega) (okK_rows l0 l1 hs0 hs1 n h0 h1 hk) (by rw [List.length_map]; omega) ?_; rw [w64s n (by omega)]; rw [diffL_snoc, List.map_append] at ih; exact ih
  refine EvP.step (fun k => by rw [dioramaref36_Diff.l0]) ?_; refine EvP.pos (by omega) (EvP.pos (by omega) ?_)
  by_cases c0 : (rd_L2 l0 n).length = 0
  ·refine EvP.neg (by omega) ?_
   refine EvP.step (fun k => by rw [dioramaref36_Diff.j2]) (EvP.neg (by simp) (hj3 ?_))
   simp [okK, c0]
  refine EvP.pos (by omega) (EvP.pos (by omega) ?_)
  by_cases c1 : (rd_L2 l1 n).length = 0
  ·rw [decide_eq_false (show ¬((rd_L2 l1 n).length : Int) > 0 by omega)]
   refine EvP.step (fun k => by rw [dioramaref36_Diff.j2]) (EvP.neg (by simp) (hj3 ?_))
   simp [okK, c1]
  rw [decide_eq_true (show ((rd_L2 l1 n).length : Int) > 0 by omega)]; refine EvP.step (fun k => by rw [dioramaref36_Diff.j2]) (EvP.pos rfl ?_); refine EvP.pos (by omega) (EvP.pos (by omega) (EvP.pos (by omega) (EvP.pos (by omega) (EvP.pos (by omega) ?_))))
  by_cases c2 : (rd_L1 (rd_L2 l0 n) 0).length = (rd_L1 (rd_L2 l1 n) 0).length
  ·refine EvP.pos (by omega) (hj3 ?_)
   simp [okK, c2]
  ·refine EvP.neg (by omega) (EvP.const ?_)
   have hk : okK l0 l1 n = false := by
    unfold okK; rw [decide_eq_true (show 0 < (rd_L2 l0 n).length by omega), decide_eq_true (show 0 < (rd_L2 l1 n).length by omega)]
    simpa using c2
   rw [if_neg]; intro hall; rw [List.all_eq_true] at hall; have := hall n (List.mem_range.2 h0); rw [hk] at this
   cases this
end
def Fair (l : List (List (List Int))) : Prop := l.length ≤ 1000000 ∧ sumLen l ≤ 1000000000000
theorem refDiff_ev (l0 l1 : List (List (List Int))) (h0 : Fair l0) (h1 : Fair l1) : Ev (fun k => dioramaref36_Diff.f k l0 l1) ((diffR l0 l1).1.map toRef, (diffR l0 l1).2) := by
 obtain ⟨h01, h02⟩ := h0; obtain ⟨h11, h12⟩ := h1; unfold dioramaref36_Diff.f; refine Ev.bind (shaped_ev l0 (by omega) (by omega)) ?_; have hj : EvP (fun k => dioramaref36_Diff.j0 k l0 l1 true) (fun x => x = ([], 2)) := EvP.step (fun k => by rw [dioramaref36_Diff.j0]) (EvP.pos rfl (EvP.const rfl)); unfold diffR
 by_cases s0 : shapedB l0 = true
 ·refine EvP.pos s0 ?_
  refine Ev.bind (shaped_ev l1 (by omega) (by omega)) ?_
  by_cases s1 : shapedB l1 = true
  ·refine EvP.pos s1 ?_
   by_cases hl : l0.length = l1.length
   ·have e : ((l0.length : Int) != (l1.length : Int)) = false := by simp [hl]
    rw [e]; refine EvP.step (fun k => by rw [dioramaref36_Diff.j0]) (EvP.neg (by simp) ?_); have := diff_l0 l0 l1 s0 s1 hl l0.length 0 (by omega) (fun i hi => by omega); refine EvP.mono this ?_; rintro r rfl; rw [s0, s1, decide_eq_true hl, Bool.true_and, Bool.true_and]
    by_cases hall : (List.range l0.length).all (okK l0 l1) = true
    (· rw [if_pos hall, hall]; rfl); (· rw [if_neg hall, if_neg (by simpa using hall)]; rfl)
   ·have e : ((l0.length : Int) != (l1.length : Int)) = true := by simp; omega
    rw [e]; refine EvP.mono hj ?_; rintro r rfl
    simp [hl]
  ·refine EvP.neg s1 (EvP.mono hj ?_)
   rintro r rfl
   simp [s1]
 ·refine EvP.neg s0 (EvP.mono hj ?_)
  rintro r rfl
  simp [s0]
theorem shaped_wide10 {l : List (List (List Int))} (h : shapedB l = true) (k i : Int) : (rd_L1 (rd_L2 l k) i).length ≤ 10 := by
 by_cases hk : k.toNat < l.length
 ·have hm : rd_L2 l k ∈ l := by
   simp only [rd_L2, List.getD_eq_getElem?_getD, List.getElem?_eq_getElem hk, Option.getD_some]; exact List.getElem_mem hk
  by_cases hi : i.toNat < (rd_L2 l k).length
  ·have hm2 : rd_L1 (rd_L2 l k) i ∈ rd_L2 l k := by
    simp only [rd_L1, List.getD_eq_getElem?_getD, List.getElem?_eq_getElem hi, Option.getD_some]; exact List.getElem_mem hi
   unfold shapedB at h; simp only [Bool.and_eq_true, List.all_eq_true] at h; have h1 := h.1.1 _ hm; simp only [Bool.not_eq_true', anyBad, List.any_eq_false] at h1; have h2 := h1 _ hm2
   simp [badLen] at h2
   omega
  ·have e : rd_L1 (rd_L2 l k) i = [] := by simp only [rd_L1, List.getD_eq_getElem?_getD, List.getElem?_eq_none (Nat.not_lt.1 hi), Option.getD_none]
   rw [e]
   simp
 ·have e : rd_L2 l k = [] := by simp only [rd_L2, List.getD_eq_getElem?_getD, List.getElem?_eq_none (Nat.not_lt.1 hk), Option.getD_none]
  have e2 : rd_L1 (rd_L2 l k) i = [] := by rw [e]; rfl
  rw [e2]
  simp
theorem wf_in64 {x : Int} (h : (Lit.int .i64 x).wf = true) : in64 x = true := by
 simp only [Lit.wf, IntKind.min, IntKind.max, IntKind.signed, IntKind.bits, Bool.and_eq_true, decide_eq_true_eq, if_true] at h; rw [in64_iff]; omega
theorem wf_all {l : List Int} (h : ∀ x ∈ l, (Lit.int .i64 x).wf = true) : l.all in64 = true := by
 rw [List.all_eq_true]
 exact fun x hx => wf_in64 (h x hx)
def ShapeOK (sh : List Int) : Prop := sh.length ≤ 3 ∧ ∀ j : Nat, j < sh.length → 1 ≤ rd sh j ∧ rd sh j ≤ 4
theorem ShapeOK.snoc {acc : List Int} {t : Int} (h : ShapeOK acc) (hl : acc.length ≤ 2) (h0 : 0 ≤ t) (h4 : t < 4) : ShapeOK (acc ++ [1 + t]) := by
 refine ⟨by rw [List.length_append, List.length_singleton]; omega, fun j hj => ?_⟩
 by_cases hja : j < acc.length
 ·have e : rd (acc ++ [1 + t]) j = rd acc j := by simp [rd, List.getD_eq_getElem?_getD, List.getElem?_append_left hja]
  rw [e]; exact h.2 j hja
 ·have e : j = acc.length := by rw [List.length_append, List.length_singleton] at hj; omega
  have e : rd (acc ++ [1 + t]) j = 1 + t := by simp [rd, List.getD_eq_getElem?_getD, e]
  rw [e]; omega
theorem shape_l0 (x : List Int) (hx : x.all in64 = true) (m : Int) (hm0 : 0 ≤ m) (hm : m < 3) (hat : dioramaref01_At.f x 0 3 = some m) (n : Nat) : ∀ (acc : List Int), (acc.length : Int) + n = 1 + m → ShapeOK acc → EvP (fun k => dioramaref36_Shape.l0 k x acc acc.length) ShapeOK := by
 induction n with
 | zero =>
  intro acc h hok; refine EvP.step (fun k => by rw [dioramaref36_Shape.l0]) (EvP.known hat ?_); rw [w64 (by omega) (by omega)]; exact EvP.neg (by omega) (EvP.const hok)
 | succ n ih =>
  intro acc h hok; refine EvP.step (fun k => by rw [dioramaref36_Shape.l0]) (EvP.known hat ?_); rw [w64 (x := 1 + m) (by omega) (by omega)]; obtain ⟨e1, e2, e3⟩ := atv_spec x (wrap64 (1 + (acc.length : Int))) 4 hx; refine EvP.pos (by omega) (EvP.known e1 (EvP.pos (by omega) ?_)); generalize atv x (wrap64 (1 + (acc.length : Int))) 4 = t at e2 e3; replace e3 := e3 (by omega); have ih := ih (acc ++ [1 + t]) (by rw [List.length_append, List.length_singleton]; omega) (hok.snoc (by omega) e2 e3); rw [List.length_append, List.length_singleton] at ih; rw [w64s acc.length (by omega), w64 (x := 1 + t) (by omega) (by omega)]; exact ih
theorem shape_ev (x : List Int) (hx : x.all in64 = true) : EvP (fun k => dioramaref36_Shape.f k x) ShapeOK := by
 obtain ⟨e1, e2, e3⟩ := atv_spec x 0 3 hx; unfold dioramaref36_Shape.f; exact shape_l0 x hx (atv x 0 3) e2 (e3 (by decide)) e1 (1 + atv x 0 3).toNat [] (by simp; omega) ⟨by simp, fun j hj => by simp at hj⟩
def WorldOK (sh : List Int) (w : Wd) : Prop := w.length = sh.length ∧ ∀ (j : Nat) rows, w[j]? = some rows → rows.length ≤ 6 ∧ ∀ r ∈ rows, (r.length : Int) = rd sh j
section
variable (sh x : List Int) (hx : x.all in64 = true) (hs : ShapeOK sh) {R : Wd → Prop}
include hx hs
theorem world_l2 (j : Nat) (hj : j < sh.length) (x5 : Wd) (x6 : Int) (x8 : List (List Int)) (x9 : Int) (h8 : x8.length ≤ 5) (hg : ∀ row : List Int, (row.length : Int) = rd sh j → EvP (fun k => dioramaref36_World.l1 k sh x x5 x6 j (x8 ++ [row]) (wrap64 (x9 + 1))) R) :
  ∀ (n : Nat) (row : List Int), (row.length : Int) + n = rd sh j → EvP (fun k => dioramaref36_World.l2 k sh x x5 x6 j x8 x9 row row.length) R
 | 0, row, h => by
  refine EvP.step (fun k => by rw [dioramaref36_World.l2]) ?_; exact EvP.pos (by omega) (EvP.pos (by omega) (EvP.neg (by omega) (EvP.pos (by omega) (hg row (by omega)))))
 | n + 1, row, h => by
  have hb := hs.2 j hj; refine EvP.step (fun k => by rw [dioramaref36_World.l2]) ?_; refine EvP.pos (by omega) (EvP.pos (by omega) (EvP.pos (by omega) (EvP.known (atv_spec x _ 3 hx).1 (EvP.pos (by omega) ?_)))); generalize atv x _ 3 = t; have ih := world_l2 j hj x5 x6 x8 x9 h8 hg n (row ++ [t]) (by simp; omega); rw [List.length_append, List.length_singleton] at ih; rw [w64s row.length (by omega)]; exact ih
theorem world_l1 (j : Nat) (hj : j < sh.length) (x5 : Wd) (h5 : x5.length = j) (x6 : Int) (hg : ∀ rows : List (List Int), rows.length ≤ 4 → (∀ r ∈ rows, (r.length : Int) = rd sh j) → EvP (fun k => dioramaref36_World.l0 k sh x (x5 ++ [rows]) (wrap64 (x6 + 17)) (wrap64 ((j : Int) + 1))) R) :
  ∀ (n : Nat) (rows : List (List Int)), rows.length + n = 4 → (∀ r ∈ rows, (r.length : Int) = rd sh j) → EvP (fun k => dioramaref36_World.l1 k sh x x5 x6 j rows rows.length) R := by
 obtain ⟨e1, e2, e3⟩ := atv_spec x x6 5 hx; replace e3 := e3 (by decide); intro n
 induction n with
 | zero =>
  intro rows h hr; refine EvP.step (fun k => by rw [dioramaref36_World.l1]) (EvP.known e1 ?_); have := hs.1; exact EvP.neg (by omega) (EvP.pos (by omega) (hg rows (by omega) hr))
 | succ n ih =>
  intro rows h hr; refine EvP.step (fun k => by rw [dioramaref36_World.l1]) (EvP.known e1 ?_); have := hs.1
  by_cases hc : (rows.length : Int) < atv x x6 5
  ·refine EvP.pos hc ?_
   have hb := hs.2 j hj; refine world_l2 sh x hx hs j hj x5 x6 rows rows.length (by omega) (fun row hrow => ?_) (rd sh j).toNat [] (by simp; omega)
   have := ih (rows ++ [row]) (by simp; omega) (fun r hr' => by
    rcases List.mem_append.1 hr' with h | h
    (· exact hr r h)
    ·rw [List.mem_singleton.1 h]; exact hrow)
   rw [List.length_append, List.length_singleton] at this; rw [w64s rows.length (by omega)]; exact this
  (· exact EvP.neg hc (EvP.pos (by omega) (hg rows (by omega) hr)))
theorem world_l0 : ∀ (n : Nat) (x5 : Wd) (x6 : Int), x5.length + n = sh.length → (∀ (j : Nat) rows, x5[j]? = some rows → rows.length ≤ 4 ∧ ∀ r ∈ rows, (r.length : Int) = rd sh j) → EvP (fun k => dioramaref36_World.l0 k sh x x5 x6 x5.length) (fun w => w.length = sh.length ∧ ∀ (j : Nat) rows, w[j]? = some rows → rows.length ≤ 4 ∧ ∀ r ∈ rows, (r.length : Int) = rd sh j)
 | 0, x5, x6, h, hok => by
  refine EvP.step (fun k => by rw [dioramaref36_World.l0]) ?_; exact EvP.neg (by omega) (EvP.const ⟨by omega, hok⟩)
 | n + 1, x5, x6, h, hok => by
  have h3 := hs.1; refine EvP.step (fun k => by rw [dioramaref36_World.l0]) ?_; refine EvP.pos (by omega) ?_; refine world_l1 sh x hx hs x5.length (by omega) x5 rfl x6 (fun rows h4 hr => ?_) 4 [] rfl (fun r hr => by simp at hr)
  have := world_l0 n (x5 ++ [rows]) (wrap64 (x6 + 17)) (by simp; omega) (fun j rows' hj => by
   by_cases hjl : j < x5.length
   (· rw [List.getElem?_append_left hjl] at hj; exact hok j rows' hj)
   ·have e : j = x5.length := by have := (List.getElem?_eq_some_iff.1 hj).1; simp at this; omega
    subst e
    simp at hj
    subst hj
    exact ⟨h4, hr⟩)
  rw [List.length_append, List.length_singleton] at this; rw [w64s x5.length (by omega)]; exact this
theorem world_ev : EvP (fun k => dioramaref36_World.f k sh x) (WorldOK sh) := by
 unfold dioramaref36_World.f; refine EvP.mono (world_l0 sh x hx hs sh.length [] 0 (by simp) (fun j rows hj => by simp at hj)) ?_; rintro w ⟨h1, h2⟩; exact ⟨h1, fun j rows hj => ⟨by have := (h2 j rows hj).1; omega, (h2 j rows hj).2⟩⟩
end
theorem WorldOK.set {sh : List Int} {w : Wd} {k : Nat} {rows : List (List Int)} (h : WorldOK sh w) (h6 : rows.length ≤ 6) (hr : ∀ r ∈ rows, (r.length : Int) = rd sh k) : WorldOK sh (w.set k rows) := by
 refine ⟨by rw [List.length_set]; exact h.1, fun j rows' hj => ?_⟩
 by_cases e : k = j
 (· subst e; have hl := (List.getElem?_eq_some_iff.1 hj).1; rw [List.length_set] at hl; rw [List.getElem?_set_self hl] at hj; obtain rfl := Option.some.inj hj; exact ⟨h6, hr⟩); (· rw [List.getElem?_set_ne e] at hj; exact h.2 j rows' hj)
theorem nearStep_ok (sh l : List Int) (hl : l.all in64 = true) (hs : ShapeOK sh) (i : Int) (w : Wd) (hw : WorldOK sh w) (hp : 0 < w.length) : ∃ w', nearStep sh l i w = some w' ∧ WorldOK sh w' := by
 obtain ⟨_, k0, k1⟩ := atv_spec l (3 * i) w.length hl; replace k1 := k1 (by omega); have hk := rd_L2_at w (atv l (3 * i) w.length) k0 k1; obtain ⟨h6, hr⟩ := hw.2 _ _ hk; have hsh := hs.2 (atv l (3 * i) w.length).toNat (by have := hw.1; omega)
 have hrd : rd sh ((atv l (3 * i) w.length).toNat : Int) = rd sh (atv l (3 * i) w.length) := by congr 1; omega
 unfold nearStep; generalize atv l (3 * i) w.length = kz at k0 k1 hk h6 hr hsh hrd; generalize rd_L2 w kz = rows at hk h6 hr
 split
 (· exact ⟨_, rfl, hw.set (by rw [List.length_take]; omega) (fun r hr' => hr r (List.mem_of_mem_take hr'))⟩)
 ·split
  ·rw [if_pos (by omega)]
   refine ⟨_, rfl, hw.set (by rw [List.length_append, List.length_singleton]; omega) (fun r hr' => ?_)⟩
   rcases List.mem_append.1 hr' with h | h
   (· exact hr r h); (· rw [List.mem_singleton.1 h, List.length_replicate]; omega)
  ·split
   ·next h0 =>
    obtain ⟨_, j0, j1⟩ := atv_spec l (3 * i + 2) rows.length hl; replace j1 := j1 (by omega); have hj := rd_L1_at rows _ j0 j1; have hjr := hr _ (List.mem_of_getElem? hj); rw [if_neg (by omega)]; refine ⟨_, rfl, hw.set (by rw [List.length_set]; exact h6) (fun r hr' => ?_)⟩
    rcases List.mem_or_eq_of_mem_set hr' with h | h
    (· exact hr r h); (· rw [h, List.length_set]; exact hjr)
   (· exact ⟨_, rfl, hw⟩)
theorem nearLoop_ok (sh l : List Int) (hl : l.all in64 = true) (hs : ShapeOK sh) : ∀ (m : Nat) (i : Int) (w : Wd), WorldOK sh w → ∃ w', nearLoop sh l m i w = some w' ∧ WorldOK sh w'
 | 0, i, w, hw => ⟨w, rfl, hw⟩
 | m + 1, i, w, hw => by
  unfold nearLoop
  split
  ·next h =>
   obtain ⟨w', e, hw'⟩ := nearStep_ok sh l hl hs i w hw h.2; rw [e]; exact nearLoop_ok sh l hl hs m (i + 1) w' hw'
  (· exact ⟨w, rfl, hw⟩)
theorem WorldOK.small {sh : List Int} {w : Wd} (hs : ShapeOK sh) (hw : WorldOK sh w) : smallB w = true := by
 unfold smallB; simp only [Bool.and_eq_true, decide_eq_true_eq, List.all_eq_true]; refine ⟨by have := hw.1; have := hs.1; omega, fun rows hrows => ?_⟩; obtain ⟨j, hj, e⟩ := List.getElem_of_mem hrows; obtain ⟨h6, hr⟩ := hw.2 j rows (by rw [List.getElem?_eq_getElem hj, e]); refine ⟨by omega, fun r hr' => ?_⟩; have := hr r hr'; have := hs.2 j (by have := hw.1; omega); omega
theorem near_ok (sh l : List Int) (hl : l.all in64 = true) (hm : l.length ≤ 4611686018427387904) (hs : ShapeOK sh) (w : Wd) (hw : WorldOK sh w) : ∃ w', dioramaref36_Near.f w sh l = some w' ∧ WorldOK sh w' := by
 obtain ⟨w', e, hw'⟩ := nearLoop_ok sh l hl hs 4 0 w hw; refine ⟨w', ?_, hw'⟩; unfold dioramaref36_Near.f; rw [hw.small hs, hl, decide_eq_true hm]; exact e
def Tidy (w : Wd) : Prop := w.length ≤ 1000 ∧ ∀ rows ∈ w, rows.length ≤ 1000
theorem Tidy.sum : ∀ {w : Wd}, (∀ rows ∈ w, rows.length ≤ 1000) → sumLen w ≤ 1000 * w.length
 | [], _ => by simp [sumLen]
 | r :: w, h => by
  have ih := Tidy.sum (w := w) (fun rows hr => h rows (List.mem_cons_of_mem _ hr)); have h1 := h r List.mem_cons_self
  have e : sumLen (r :: w) = r.length + sumLen w := by simp [sumLen]
  rw [e, List.length_cons]; omega
theorem WorldOK.tidy {sh : List Int} {w : Wd} (hs : ShapeOK sh) (hw : WorldOK sh w) : Tidy w := by
 refine ⟨by have := hw.1; have := hs.1; omega, fun rows hrows => ?_⟩; obtain ⟨j, hj, e⟩ := List.getElem_of_mem hrows; have := (hw.2 j rows (by rw [List.getElem?_eq_getElem hj, e])).1; omega
theorem Tidy.set {w : Wd} {k : Nat} {rows : List (List Int)} (h : Tidy w) (hr : rows.length ≤ 1000) : Tidy (w.set k rows) := by
 refine ⟨by rw [List.length_set]; exact h.1, fun r hr' => ?_⟩
 rcases List.mem_or_eq_of_mem_set hr' with h' | h'
 (· exact h.2 r h'); (· rw [h']; exact hr)
theorem odd_tidy {sh : List Int} {w : Wd} (hs : ShapeOK sh) (hw : WorldOK sh w) (a h b : Int) (ha : in64 a = true) (hh : in64 h = true) (hb : in64 b = true) : Tidy (oddR w a h b) := by
 have ht := hw.tidy hs; have hl := hw.1; have h3 := hs.1; unfold oddR
 split
 ·refine ⟨by simp, fun rows hr => ?_⟩
  rw [List.mem_singleton.1 hr]
  simp
 next h0 =>
 obtain ⟨_, k0, k1⟩ := arv_spec a w.length ha; replace k1 := k1 (by omega); have h6 := (hw.2 _ _ (rd_L2_at w (arv a w.length) k0 k1)).1; obtain ⟨_, b0, b1⟩ := arv_spec b 5 hb; replace b1 := b1 (by decide)
 split
 (· exact ht.set (by rw [List.length_append, List.length_singleton]; omega))
 split
 ·refine ⟨by rw [List.length_append]; simp; omega, fun rows hr => ?_⟩
  rcases List.mem_append.1 hr with h | h
  (· exact ht.2 rows h)
  ·simp at h
   rw [h]
   simp
 split
 (· exact ⟨by rw [List.length_take]; omega, fun rows hr => ht.2 rows (List.mem_of_mem_take hr)⟩)
 split
 (· exact ht.set (by rw [List.length_append, List.length_replicate]; omega))
 split
 (· exact ht.set (by simp)); (· exact ht.set (by simp))
end Go.Proofs.Ytcgpemefmakjiaa.PX
namespace Go.Proofs.Ytcgpemefmakjiaa.PX
open Go.RowKit Go.Proofs.YtcgpemefmakjiaaW.PrintWords Go.Proofs.YtcgpemefmakjiaaW.PrintLast Go.Proofs.YtcgpemefmakjiaaW.PrintMore
theorem Tidy.fair {w : Wd} (h : Tidy w) : Fair w ∧ sumLen w < 4611686018427387904 := by
 have := Tidy.sum h.2; have := h.1; refine ⟨⟨by omega, by omega⟩, by omega⟩
theorem rd_L3_nat (xs : List Wd) (i : Nat) (h : i < xs.length) : rd_L3 xs i = xs[i] := by simp [rd_L3, List.getD_eq_getElem?_getD, h]
end Go.Proofs.Ytcgpemefmakjiaa.PX
namespace Go.Proofs.Ytcgpemefmakjiaa.Pure
open Go.RowKit Go.Proofs.Ytcgpemefmakjiaa.PX Go.Proofs.YtcgpemefmakjiaaW.PrintWords Go.Proofs.YtcgpemefmakjiaaW.PrintLast
end Go.Proofs.Ytcgpemefmakjiaa.Pure
namespace Go.Proofs.Ytcgpemefmakjiaa.PX
open Go.RowKit Go.Proofs.YtcgpemefmakjiaaW.PrintWords Go.Proofs.YtcgpemefmakjiaaW.PrintLast Go.Proofs.YtcgpemefmakjiaaW.PrintMore
attribute [local go_sem] max2_int min2_int max_two min_two max_three min_three max_four min_four   -- for this text's walks alone
end Go.Proofs.Ytcgpemefmakjiaa.PX
namespace Go.Proofs.Ytcgpemefmakjiaa.PX
open Go.RowKit Go.Proofs.YtcgpemefmakjiaaW.PrintWords Go.Proofs.YtcgpemefmakjiaaW.PrintLast Go.Proofs.YtcgpemefmakjiaaW.PrintMore
section
variable {L : Wd} {k : Nat} {X : List (List Int)}
end
section
variable {L : Wd} {k wd : Nat} {a b : List (List Int)}
end
section
variable {sh : List Int} {a b : Wd} (hs : ShapeOK sh) (ha : WorldOK sh a) (hb : WorldOK sh b)
include hs
theorem WorldOK.rows (hw : WorldOK sh a) (j : Nat) (hj : j < a.length) : a[j].length ≤ 6 ∧ (∀ r ∈ a[j], r.length = (rd sh j).toNat) ∧ 1 ≤ (rd sh j).toNat ∧ (rd sh j).toNat ≤ 10 := by
 obtain ⟨h6, hr⟩ := hw.2 j a[j] (List.getElem?_eq_getElem hj); have := hs.2 j (by have := hw.1; omega); exact ⟨h6, fun r hr' => by have := hr r hr'; omega, by omega, by omega⟩
theorem WorldOK.shaped (hw : WorldOK sh a) : shapedB a = true := by
 unfold shapedB; have h3 := hs.1
 have hsum : sumLen a ≤ 18 := by
  have : ∀ (w : Wd), (∀ r ∈ w, r.length ≤ 6) → sumLen w ≤ 6 * w.length := by
   intro w
   induction w with
   | nil => intro _; simp [sumLen]
   | cons r w ih =>
    intro h; have := ih (fun r hr => h r (List.mem_cons_of_mem _ hr)); have := h r List.mem_cons_self
    have e : sumLen (r :: w) = r.length + sumLen w := by simp [sumLen]
    rw [e, List.length_cons]; omega
  have := this a (fun r hr => by
   obtain ⟨j, hj, e⟩ := List.getElem_of_mem hr; rw [← e]
   exact (hw.rows hs j hj).1)
  have := hw.1; omega
 simp only [Bool.and_eq_true, decide_eq_true_eq, List.all_eq_true]; refine ⟨⟨fun rows hr => ?_, by have := hw.1; omega⟩, by omega⟩; obtain ⟨j, hj, e⟩ := List.getElem_of_mem hr; obtain ⟨_, h2, h4, h5⟩ := hw.rows hs j hj; rw [e] at h2; rw [Bool.not_eq_true', anyBad, List.any_eq_false]; intro r hr'; have hz : 0 < rows.length := List.length_pos_of_mem hr'; have e0 : (rd_L1 rows 0).length = (rd sh j).toNat := h2 _ (by rw [show (0 : Int) = ((0 : Nat) : Int) from rfl, rd_L1_nat _ 0 hz]; exact List.getElem_mem _); rw [badLen_false (by rw [h2 r hr', e0]) (by rw [h2 r hr']; exact h4) (by rw [h2 r hr']; exact h5)]
 simp
include ha hb
theorem okK_all (j : Nat) (hj : j < a.length) : okK a b j = true := by
 have hjb : j < b.length := by have := ha.1; have := hb.1; omega
 have ra := (ha.rows hs j hj).2.1; have rb := (hb.rows hs j hjb).2.1; unfold okK; rw [rd_L2_nat a j hj, rd_L2_nat b j hjb]
 by_cases h1 : 0 < a[j].length
 ·by_cases h2 : 0 < b[j].length
  ·have e1 : (rd_L1 a[j] 0).length = (rd sh j).toNat := ra _ (by rw [show (0 : Int) = ((0 : Nat) : Int) from rfl, rd_L1_nat _ 0 h1]; exact List.getElem_mem _)
   have e2 : (rd_L1 b[j] 0).length = (rd sh j).toNat := rb _ (by rw [show (0 : Int) = ((0 : Nat) : Int) from rfl, rd_L1_nat _ 0 h2]; exact List.getElem_mem _); rw [e1, e2]
   simp
  ·simp [h2]
 ·simp [h1]
theorem diffR_shape : diffR a b = (diffL a b a.length, 0) := by
 unfold diffR
 have hl : a.length = b.length := by rw [ha.1, hb.1]
 have hall : (List.range a.length).all (okK a b) = true := by
  rw [List.all_eq_true]
  exact fun j hj => okK_all hs ha hb j (List.mem_range.1 hj)
 rw [ha.shaped hs, hb.shaped hs, decide_eq_true hl, hall]; rfl
end
end Go.Proofs.Ytcgpemefmakjiaa.PX
namespace Go.Proofs.Ytcgpemefmakjiaa.PX
open Go.RowKit Go.Proofs.YtcgpemefmakjiaaW.PrintWords Go.Proofs.YtcgpemefmakjiaaW.PrintLast Go.Proofs.YtcgpemefmakjiaaW.PrintMore
theorem setAll_le2 (kind : Int) (a b : List (List Int)) (w : Nat) : ∀ m : Nat, (∀ i : Nat, i < m → (rd_L1 a i).length ≤ w) → (setAll kind a b m).length ≤ w * m
 | 0, _ => by simp [setAll]
 | m + 1, h => by
  have ih := setAll_le2 kind a b w m (fun i hi => h i (by omega)); have h1 := setRow_le kind m (rd_L1 a m) (rd_L1 b m) (rd_L1 a m).length; have h2 := h m (by omega); rw [setAll_snoc, List.length_append, Nat.mul_add, Nat.mul_one]; omega
section
variable {sh : List Int} {a b : Wd} (hs : ShapeOK sh) (ha : WorldOK sh a) (hb : WorldOK sh b)
include hs ha hb
theorem diffL_short : ∀ n : Nat, n ≤ a.length → (diffL a b n).length ≤ 72 * n
 | 0, _ => by simp [diffL]
 | n + 1, h => by
  have ih := diffL_short n (by omega)
  have hnb : n < b.length := by have := ha.1; have := hb.1; omega
  obtain ⟨a6, ra, _, r10⟩ := ha.rows hs n (by omega); obtain ⟨b6, rb, _, _⟩ := hb.rows hs n hnb; rw [diffL_snoc, List.length_append, chgs_len, rd_L2_nat a n (by omega), rd_L2_nat b n hnb]; have hm := bestOf_le a[n] b[n] (min a[n].length b[n].length); have hm' : sameM a[n] b[n] ≤ min a[n].length b[n].length := hm
  have hset : setsN a[n] b[n] (sameM a[n] b[n]) ≤ 10 * sameM a[n] b[n] := setAll_le2 0 a[n] b[n] 10 _ (fun i hi => by
   rw [rd_L1_nat _ i (by omega), ra _ (List.getElem_mem _)]
   exact r10)
  omega
end
theorem sameWorld_l1 (x : Wd) (hx : x.length ≤ 1000) (hr : ∀ rows ∈ x, rows.length ≤ 1000 ∧ ∀ r ∈ rows, r.length ≤ 1000) (i : Nat) (hi : i < x.length) (hg : Ev (fun k => dioramaref36_SameWorld.l0 k x x ((i + 1 : Nat) : Int)) true) (n : Nat) : ∀ j : Nat, j + n = (rd_L2 x i).length → Ev (fun k => dioramaref36_SameWorld.l1 k x x i j) true := by
 have hm : rd_L2 x i ∈ x := by rw [rd_L2_nat x i hi]; exact List.getElem_mem _
 obtain ⟨hrl, hrr⟩ := hr _ hm
 induction n with
 | zero =>
  intro j h; refine EvP.step (fun k => by rw [dioramaref36_SameWorld.l1]) (EvP.pos (by omega) (EvP.pos (by omega) (EvP.neg (by omega) ?_))); rw [w64s i (by omega)]; exact hg
 | succ n ih =>
  intro j h; refine EvP.step (fun k => by rw [dioramaref36_SameWorld.l1]) ?_; refine EvP.pos (by omega) (EvP.pos (by omega) (EvP.pos (by omega) (EvP.pos (by omega) (EvP.pos (by omega) (EvP.pos (by omega) ?_))))); rw [w64s j (by omega)]
  have hl : (rd_L1 (rd_L2 x i) j).length ≤ 1000 := by
   rw [rd_L1_nat _ j (by omega)]; exact hrr _ (List.getElem_mem _)
  exact Ev.bind (sameInts_ev _ _ (by omega)) (EvP.pos (by simp) (ih (j + 1) (by omega)))
theorem sameWorld_l0 (x : Wd) (hx : x.length ≤ 1000) (hr : ∀ rows ∈ x, rows.length ≤ 1000 ∧ ∀ r ∈ rows, r.length ≤ 1000) (n : Nat) : ∀ i : Nat, i + n = x.length → Ev (fun k => dioramaref36_SameWorld.l0 k x x i) true := by
 induction n with
 | zero =>
  intro i h; exact EvP.step (fun k => by rw [dioramaref36_SameWorld.l0]) (EvP.neg (by omega) (EvP.const rfl))
 | succ n ih =>
  intro i h; refine EvP.step (fun k => by rw [dioramaref36_SameWorld.l0]) (EvP.pos (by omega) (EvP.pos (by omega) (EvP.pos (by omega) (EvP.pos rfl ?_)))); exact sameWorld_l1 x hx hr i (by omega) (ih (i + 1) (by omega)) (rd_L2 x i).length 0 (by omega)
theorem sameWorld_ev (x : Wd) (hx : x.length ≤ 1000) (hr : ∀ rows ∈ x, rows.length ≤ 1000 ∧ ∀ r ∈ rows, r.length ≤ 1000) : Ev (fun k => dioramaref36_SameWorld.f k x x) true := by
 unfold dioramaref36_SameWorld.f; exact EvP.pos rfl (sameWorld_l0 x hx hr x.length 0 (by omega))
end Go.Proofs.Ytcgpemefmakjiaa.PX
namespace Go.Proofs.Ytcgpemefmakjiaa.Pure
open Go.RowKit Go.Proofs.Ytcgpemefmakjiaa.PX Go.Proofs.YtcgpemefmakjiaaW.PrintWords Go.Proofs.YtcgpemefmakjiaaW.PrintLast
end Go.Proofs.Ytcgpemefmakjiaa.Pure
namespace Go.Proofs.Ytcgpemefmakjiaa.PX
open Go.RowKit Go.Proofs.YtcgpemefmakjiaaW.PrintWords Go.Proofs.YtcgpemefmakjiaaW.PrintLast Go.Proofs.YtcgpemefmakjiaaW.PrintMore
end Go.Proofs.Ytcgpemefmakjiaa.PX
namespace Go.Proofs.Ytcgpemefmakjiaa.PX
open Go.RowKit Go.Proofs.YtcgpemefmakjiaaW.PrintWords Go.Proofs.YtcgpemefmakjiaaW.PrintLast Go.Proofs.YtcgpemefmakjiaaW.PrintMore
def fromRef (c : S76) : S61 := ⟨c.f0, c.f1, c.f2, c.f3, c.f4, c.f5⟩
theorem own_l0 (x : List S76) (hx : x.length < 2199023255552) : ∀ n i : Nat, i + n = x.length → Ev (fun k => dioramalaw36_own.l0 k x ((x.take i).map fromRef) i) (x.map fromRef)
 | 0, i, h => by
  refine EvP.step (fun k => by rw [dioramalaw36_own.l0]) ?_; refine EvP.neg (by omega) ?_; rw [List.take_of_length_le (by omega)]; exact EvP.const rfl
 | n + 1, i, h => by
  have ih := own_l0 x hx n (i + 1) (by omega); refine EvP.step (fun k => by rw [dioramalaw36_own.l0]) ?_; refine EvP.pos (by omega) (EvP.pos (by omega) (EvP.pos (by rw [List.length_map, List.length_take]; omega) ?_)); rw [w64s i (by omega), rd_T76_nat x i (by omega)]; rw [List.take_succ_eq_append_getElem (show i < x.length by omega), List.map_append] at ih; exact ih
theorem own_ev (x : List S76) (hx : x.length < 2199023255552) : Ev (fun k => dioramalaw36_own.f k x) (x.map fromRef) := by
 unfold dioramalaw36_own.f; have := own_l0 x hx x.length 0 (by omega)
 simpa using this
end Go.Proofs.Ytcgpemefmakjiaa.PX
namespace Go.Proofs.Ytcgpemefmakjiaa.Pure
open Go.RowKit Go.Proofs.Ytcgpemefmakjiaa.PX Go.Proofs.YtcgpemefmakjiaaW.PrintWords Go.Proofs.YtcgpemefmakjiaaW.PrintLast
end Go.Proofs.Ytcgpemefmakjiaa.Pure
namespace Go.Proofs.Ytcgpemefmakjiaa.PX
open Go.RowKit Go.Proofs.YtcgpemefmakjiaaW.PrintWords Go.Proofs.YtcgpemefmakjiaaW.PrintLast Go.Proofs.YtcgpemefmakjiaaW.PrintMore
theorem intR_len (n : Int) : (intR n).length = nb (mag n) + 1 := by simp [intR, byt]
end Go.Proofs.Ytcgpemefmakjiaa.PX
namespace Go.Proofs.Ytcgpemefmakjiaa.PX
open Go.RowKit Go.Proofs.YtcgpemefmakjiaaW.PrintWords Go.Proofs.YtcgpemefmakjiaaW.PrintLast Go.Proofs.YtcgpemefmakjiaaW.PrintMore
attribute [local go_sem] max2_int min2_int max_two min_two max_three min_three max_four min_four   -- for this text's walks alone
end Go.Proofs.Ytcgpemefmakjiaa.PX
namespace Go.Proofs.Ytcgpemefmakjiaa.PX
open Go.RowKit Go.Proofs.YtcgpemefmakjiaaW.PrintWords Go.Proofs.YtcgpemefmakjiaaW.PrintLast Go.Proofs.YtcgpemefmakjiaaW.PrintMore
def intsR (xs : List Int) : List Int := intR xs.length ++ (xs.map intR).flatten
def posR (xs : List Int) (j : Nat) : Nat := nb (mag xs.length) + 1 + ((xs.take j).map intR).flatten.length
structure AtJ (A : Option Addr) (c b2 : Nat) (b xs : List Int) (w wr : World) (v : Value) (i j : Nat) : Prop where
 bx : wr.heap[b2]? = some (.cells #[.slice A b.length c] 53 (0, 0))
 ax : wr.heap[b2 + 1]? = some (.cells #[.int .i64 (posR xs i)] 3 (0, 0))
 row : Kd.R (Kd.int .i64) 3 wr w.heap.size (fun k => k ≠ b2 ∧ k ≠ b2 + 1) v (xs.take j)
 bel : Below w.heap.size w wr
end Go.Proofs.Ytcgpemefmakjiaa.PX
namespace Go.Proofs.Ytcgpemefmakjiaa.PX
open Go.RowKit Go.Proofs.YtcgpemefmakjiaaW.PrintWords Go.Proofs.YtcgpemefmakjiaaW.PrintLast Go.Proofs.YtcgpemefmakjiaaW.PrintMore
attribute [local go_sem] max2_int min2_int max_two min_two max_three min_three max_four min_four   -- for this text's walks alone
end Go.Proofs.Ytcgpemefmakjiaa.PX
namespace Go.Proofs.Ytcgpemefmakjiaa.PX
open Go.RowKit Go.Proofs.YtcgpemefmakjiaaW.PrintWords Go.Proofs.YtcgpemefmakjiaaW.PrintLast Go.Proofs.YtcgpemefmakjiaaW.PrintMore
theorem intR_le (n : Int) : (intR n).length ≤ 9 := by
 rw [intR_len]; have := nb_le (mag n); omega
theorem flat_le9 (xs : List Int) : ((xs.map intR).flatten).length ≤ 9 * xs.length := by
 induction xs with
 | nil => simp
 | cons x l ih =>
  have := intR_le x; rw [List.map_cons, List.flatten_cons, List.length_append, List.length_cons]; omega
theorem intsR_le (xs : List Int) : (intsR xs).length ≤ 9 * (xs.length + 1) := by
 have := flat_le9 xs; have := intR_le xs.length; rw [intsR, List.length_append]; omega
theorem nat64 (n : Nat) (h : n ≤ 1000000000000) : in64 (n : Int) = true := in64_iff.2 ⟨by omega, by omega⟩
theorem ints_l0 (xs : List Int) (hx : ∀ x ∈ xs, in64 x = true) (hl : xs.length ≤ 1000) : ∀ n i : Nat, i + n = xs.length → Ev (fun k => wire_Ints.l0 k (intR xs.length ++ ((xs.take i).map intR).flatten) xs xs.length i) (intsR xs)
 | 0, i, h => by
  refine EvP.step (fun k => by rw [wire_Ints.l0]) ?_; refine EvP.neg (by omega) ?_; rw [List.take_of_length_le (by omega)]; exact EvP.const rfl
 | n + 1, i, h => by
  have ih := ints_l0 xs hx hl n (i + 1) (by omega); refine EvP.step (fun k => by rw [wire_Ints.l0]) ?_; have h1 := flat_le9 (xs.take i); have h2 := intR_le xs.length; have h3 := intR_le (rd xs i); refine EvP.pos (by omega) (EvP.pos (by omega) (EvP.pos (by omega) (EvP.known (r := intR (rd xs i)) ?_ (EvP.pos ?_ ?_)))); (· unfold wire_Int.f; rw [rd_nat xs i (by omega), if_pos (hx _ (List.getElem_mem _))]); (· rw [List.length_append]; rw [List.length_take] at h1; omega)
  ·rw [w64s i (by omega)]
   rw [List.take_succ_eq_append_getElem (show i < xs.length by omega), List.map_append, List.flatten_append, ← List.append_assoc] at ih; rw [rd_nat xs i (by omega)]
   simpa using ih
theorem ints_ev (xs : List Int) (hx : ∀ x ∈ xs, in64 x = true) (hl : xs.length ≤ 1000) : Ev (fun k => wire_Ints.f k xs) (intsR xs) := by
 unfold wire_Ints.f; refine EvP.known (r := intR xs.length) (by unfold wire_Int.f; rw [if_pos (nat64 _ (by omega))]) ?_; have := ints_l0 xs hx hl xs.length 0 (by omega)
 simpa using this
structure OkC (c : S61) : Prop where
 nums : ∀ x ∈ ([c.f0, c.f1, c.f2, c.f3, c.f4] : List Int), in64 x = true
 vals : ∀ x ∈ c.f5, in64 x = true
 len : c.f5.length ≤ 10
def chg (c : S61) : List Int := intsR [c.f0, c.f1, c.f2, c.f3, c.f4] ++ intsR c.f5
def encR (cs : List S61) : List Int := intR cs.length ++ (cs.map chg).flatten
end Go.Proofs.Ytcgpemefmakjiaa.PX
namespace Go.Proofs.Ytcgpemefmakjiaa.PX
open Go.RowKit Go.Proofs.YtcgpemefmakjiaaW.PrintWords Go.Proofs.YtcgpemefmakjiaaW.PrintLast Go.Proofs.YtcgpemefmakjiaaW.PrintMore
def V0 (r : List Int) : Prop := ∀ v ∈ r, in64 v = true
def V1 (rows : List (List Int)) : Prop := ∀ r ∈ rows, V0 r
def V2 (w : Wd) : Prop := ∀ rows ∈ w, V1 rows
theorem EvP.also {α : Type} {F : Nat → Option α} {P Q : α → Prop} (h : EvP F P) (hq : ∀ k r, F k = some r → Q r) : EvP F (fun r => P r ∧ Q r) := by
 obtain ⟨r, hr, K, hK⟩ := h; exact ⟨r, ⟨hr, hq K r (hK K (Nat.le_refl _))⟩, K, hK⟩
theorem mem_snoc {α : Type} {P : α → Prop} {l : List α} {x : α} (h : ∀ y ∈ l, P y) (hx : P x) : ∀ y ∈ l ++ [x], P y := fun y hy => by
 rcases List.mem_append.1 hy with h' | h'
 (· exact h y h'); (· rw [List.mem_singleton.1 h']; exact hx)
theorem world_vals (sh x : List Int) (hx : x.all in64 = true) : ∀ k : Nat, (∀ x5 x6 x7 w, V2 x5 → dioramaref36_World.l0 k sh x x5 x6 x7 = some w → V2 w) ∧ (∀ x5 x6 x7 x8 x9 w, V2 x5 → V1 x8 → dioramaref36_World.l1 k sh x x5 x6 x7 x8 x9 = some w → V2 w) ∧ (∀ x5 x6 x7 x8 x9 x10 x11 w, V2 x5 → V1 x8 → V0 x10 → dioramaref36_World.l2 k sh x x5 x6 x7 x8 x9 x10 x11 = some w → V2 w)
 | 0 => ⟨fun _ _ _ _ _ h => by simp [dioramaref36_World.l0] at h, fun _ _ _ _ _ _ _ _ h => by simp [dioramaref36_World.l1] at h, fun _ _ _ _ _ _ _ _ _ _ _ h => by simp [dioramaref36_World.l2] at h⟩
 | k + 1 => by
  obtain ⟨i0, i1, i2⟩ := world_vals sh x hx k; refine ⟨fun x5 x6 x7 w h5 h => ?_, fun x5 x6 x7 x8 x9 w h5 h8 h => ?_, fun x5 x6 x7 x8 x9 x10 x11 w h5 h8 h10 h => ?_⟩
  ·rw [dioramaref36_World.l0] at h
   split at h
   (· exact i1 _ _ _ _ _ _ h5 (fun r hr => by cases hr) h)
   ·cases h
    exact h5
  ·rw [dioramaref36_World.l1] at h
   obtain ⟨t, ht, h⟩ := Option.bind_eq_some_iff.1 h
   split at h
   (· exact i2 _ _ _ _ _ _ _ _ h5 h8 (fun r hr => by cases hr) h)
   ·split at h
    (· exact i0 _ _ _ _ (mem_snoc h5 h8) h)
    ·cases h
  ·rw [dioramaref36_World.l2] at h
   split at h
   ·split at h
    ·split at h
     ·obtain ⟨t, ht, h⟩ := Option.bind_eq_some_iff.1 h
      obtain ⟨e1, e2, e3⟩ := atv_spec x (wrap64 ((wrap64 ((wrap64 (x6 + 1)) + (wrap64 (4 * x9)))) + x11)) 3 hx; rw [e1] at ht
      cases ht
      have e3 := e3 (by decide)
      split at h
      (· exact i2 _ _ _ _ _ _ _ _ h5 h8 (mem_snoc h10 (in64_iff.2 ⟨by omega, by omega⟩)) h)
      ·cases h
     ·split at h
      (· exact i1 _ _ _ _ _ _ h5 (mem_snoc h8 h10) h)
      ·cases h
    ·cases h
   ·cases h
theorem world_ev2 (sh x : List Int) (hx : x.all in64 = true) (hs : ShapeOK sh) : EvP (fun k => dioramaref36_World.f k sh x) (fun w => WorldOK sh w ∧ V2 w) :=
 EvP.also (world_ev sh x hx hs) (fun k r h => (world_vals sh x hx k).1 [] 0 0 r (fun _ hr => by cases hr) h)
theorem V0.rd {r : List Int} (h : V0 r) (i : Int) : in64 (rd r i) = true := by
 unfold Go.Proofs.YtcgpemefmakjiaaW.PrintWords.rd; rw [List.getD_eq_getElem?_getD]
 cases e : r[i.toNat]? with
 | none => rfl
 | some v => exact h v (List.mem_of_getElem? e)
theorem V1.rd {rows : List (List Int)} (h : V1 rows) (i : Int) : V0 (rd_L1 rows i) := by
 unfold rd_L1; rw [List.getD_eq_getElem?_getD]
 cases e : rows[i.toNat]? with
 | none => exact fun v hv => by cases hv
 | some r => exact h r (List.mem_of_getElem? e)
theorem V2.rd {w : Wd} (h : V2 w) (i : Int) : V1 (rd_L2 w i) := by
 unfold rd_L2; rw [List.getD_eq_getElem?_getD]
 cases e : w[i.toNat]? with
 | none => exact fun v hv => by cases hv
 | some r => exact h r (List.mem_of_getElem? e)
theorem chgs_ok {kind : Nat} (hk : kind ≤ 100) {a b : List (List Int)} {m : Nat} (ha : V1 a) (hb : V1 b) (la : a.length ≤ 100) (lb : b.length ≤ 100) (hm : m ≤ 100) (hw : ∀ i : Int, (rd_L1 a i).length ≤ 10 ∧ (rd_L1 b i).length ≤ 10) {c : S61} (h : c ∈ chgs kind a b m) : OkC c := by
 have hin : ∀ n : Int, -1000 ≤ n → n ≤ 1000 → in64 n = true := fun n h0 h1 => in64_iff.2 ⟨by omega, by omega⟩
 unfold chgs at h; rw [List.mem_append, List.mem_append] at h
 rcases h with (h | h) | h
 ·unfold setAll setRow at h
  rw [List.mem_flatMap] at h; obtain ⟨i, hi, h⟩ := h; rw [List.mem_flatMap] at h; obtain ⟨j, hj, h⟩ := h; have hi := List.mem_range.1 hi; have hj := List.mem_range.1 hj; have h10 := (hw i).1; unfold setAt at h
  split at h
  ·cases h
  ·rw [List.mem_singleton.1 h]
   refine ⟨fun x hx => ?_, fun x hx => (by cases hx), by simp⟩; simp only [List.mem_cons, List.not_mem_nil, or_false] at hx
   rcases hx with rfl | rfl | rfl | rfl | rfl
   (· exact hin _ (by omega) (by omega)); (· exact hin _ (by omega) (by omega)); (· exact hin _ (by omega) (by omega)); (· exact (ha.rd i).rd j); (· exact (hb.rd i).rd j)
 ·unfold takeL at h
  rw [List.mem_map] at h; obtain ⟨q, hq, rfl⟩ := h; have hq := List.mem_range.1 hq; refine ⟨fun x hx => ?_, fun x hx => ha.rd _ x hx, (hw _).1⟩; simp only [List.mem_cons, List.not_mem_nil, or_false] at hx
  rcases hx with rfl | rfl | rfl | rfl | rfl <;> exact hin _ (by omega) (by omega)
 ·unfold addL at h
  rw [List.mem_map] at h; obtain ⟨q, hq, rfl⟩ := h; have hq := List.mem_range.1 hq; refine ⟨fun x hx => ?_, fun x hx => hb.rd _ x hx, (hw _).2⟩; simp only [List.mem_cons, List.not_mem_nil, or_false] at hx
  rcases hx with rfl | rfl | rfl | rfl | rfl <;> exact hin _ (by omega) (by omega)
theorem diffL_ok {sh : List Int} {a b : Wd} (hs : ShapeOK sh) (ha : WorldOK sh a) (hb : WorldOK sh b) (va : V2 a) (vb : V2 b) (n : Nat) (hn : n ≤ a.length) : ∀ c ∈ diffL a b n, OkC c := by
 intro c hc; unfold diffL at hc; rw [List.mem_flatMap] at hc; obtain ⟨k, hk, hc⟩ := hc; have hk := List.mem_range.1 hk; have h3 := hs.1; have hla := ha.1; have hlb := hb.1; obtain ⟨a6, _, _, _⟩ := ha.rows hs k (by omega); obtain ⟨b6, _, _, _⟩ := hb.rows hs k (by omega); have ea := rd_L2_nat a k (by omega); have eb := rd_L2_nat b k (by omega); have hm : sameM (rd_L2 a k) (rd_L2 b k) ≤ min (rd_L2 a k).length (rd_L2 b k).length := bestOf_le _ _ _; rw [← ea] at a6; rw [← eb] at b6; exact chgs_ok (by omega) (va.rd k) (vb.rd k) (by omega) (by omega) (by omega) (fun i => ⟨shaped_wide10 (ha.shaped hs) k i, shaped_wide10 (hb.shaped hs) k i⟩) hc
end Go.Proofs.Ytcgpemefmakjiaa.PX
namespace Go.Proofs.Ytcgpemefmakjiaa.Pure
open Go.RowKit Go.Proofs.Ytcgpemefmakjiaa.PX Go.Proofs.YtcgpemefmakjiaaW.PrintWords Go.Proofs.YtcgpemefmakjiaaW.PrintLast
end Go.Proofs.Ytcgpemefmakjiaa.Pure
namespace Go.Proofs.Ytcgpemefmakjiaa.PX
open Go.RowKit Go.Proofs.YtcgpemefmakjiaaW.PrintWords Go.Proofs.YtcgpemefmakjiaaW.PrintLast Go.Proofs.YtcgpemefmakjiaaW.PrintMore
def dig (m : Int) (i : Nat) : List Int := (List.range i).map fun q => m / 256 ^ q % 256
theorem dig_len (m : Int) (i : Nat) : (dig m i).length = i := by simp [dig]
theorem dig_succ (m : Int) (i : Nat) : dig m (i + 1) = dig m i ++ [m / 256 ^ i % 256] := by simp [dig, List.range_succ]
theorem rd_dig (m : Int) (i q : Nat) (h : q < i) : rd (dig m i) (q : Int) = m / 256 ^ q % 256 := by simp [rd, dig, List.getD_eq_getElem?_getD, h]
theorem byt_len (n : Int) (k j : Nat) : (byt n k j).length = j := by simp [byt]
theorem refInt_l1 (n : Int) (k : Nat) (hk : k ≤ 8) : ∀ d j : Nat, j + d = k → Ev (fun r => dioramaref01_Int.l1 r n (dig (mag n) k) (flp n (128 + k) :: byt n k j) ((k : Int) - 1 - j)) (flp n (128 + k) :: byt n k k)
 | 0, j, h => by
  obtain rfl : j = k := by omega
  exact EvP.step (fun r => by rw [dioramaref01_Int.l1]) (EvP.neg (by omega) (EvP.const rfl))
 | d + 1, j, h => by
  have ih := refInt_l1 n k hk d (j + 1) (by omega)
  have hq : (k : Int) - 1 - j = ((k - 1 - j : Nat) : Int) := by omega
  have hr : rd (dig (mag n) k) ((k : Int) - 1 - j) = mag n / 256 ^ (k - 1 - j) % 256 := by rw [hq]; exact rd_dig _ _ _ (by omega)
  have hl : (flp n (128 + k) :: byt n k j).length < 140737488355328 := by rw [List.length_cons, byt_len]; omega
  have e : wrap64 ((k : Int) - 1 - j - 1) = (k : Int) - 1 - ((j + 1 : Nat) : Int) := by rw [w64 (by omega) (by omega)]; omega
  rw [byt_succ] at ih; refine EvP.step (fun r => by rw [dioramaref01_Int.l1]) (EvP.pos (by omega) (EvP.pos (by omega) (EvP.pos (by rw [dig_len]; omega) ?_))); rw [hr, e]
  by_cases hn : n < 0
  ·have ef : (255 - mag n / 256 ^ (k - 1 - j) % 256) % 256 = flp n (mag n / 256 ^ (k - 1 - j) % 256) := by
    unfold flp; rw [if_pos hn]; have := Int.emod_nonneg (mag n / 256 ^ (k - 1 - j)) (by omega : (256 : Int) ≠ 0); have := Int.emod_lt_of_pos (mag n / 256 ^ (k - 1 - j)) (by omega : (0 : Int) < 256); omega
   rw [ef]; exact EvP.pos hn (EvP.pos hl ih)
  ·have ef : mag n / 256 ^ (k - 1 - j) % 256 = flp n (mag n / 256 ^ (k - 1 - j) % 256) := by
    unfold flp; rw [if_neg hn]
   rw [ef]; exact EvP.neg hn (EvP.pos hl ih)
theorem refInt_l0 (n : Int) (hn : in64 n = true) : ∀ d i : Nat, i + d = nb (mag n) → Ev (fun r => dioramaref01_Int.l0 r n (mag n / 256 ^ i) (dig (mag n) i)) (intR n)
 | 0, i, h => by
  obtain ⟨m0, m1⟩ := mag_bd n hn; have h8 := nb_le (mag n); have hp := (nb_pow (mag n) (by omega) i (by omega)).1 (by omega); have hz : mag n / 256 ^ i = 0 := Int.ediv_eq_zero_of_lt m0 hp; have hl := refInt_l1 n i (by omega) i 0 (by omega); have h0 : byt n i 0 = [] := rfl; rw [h0] at hl
  have e1 : intR n = flp n (128 + i) :: byt n i i := by unfold intR; rw [← h]; rfl
  rw [e1]
  have e2 : (i : Int) - 1 - ((0 : Nat) : Int) = wrap64 ((i : Int) - 1) := by rw [w64 (by omega) (by omega)]; omega
  rw [e2] at hl; refine EvP.step (fun r => by rw [dioramaref01_Int.l0]) (EvP.neg (by omega) ?_); rw [dig_len]
  by_cases hs : n < 0
  ·have ef : wrap64 (127 - (i : Int)) % 256 = flp n (128 + i) := by
    rw [w64 (by omega) (by omega)]; unfold flp; rw [if_pos hs]; omega
   refine EvP.neg (by omega) (EvP.pos (by simp) ?_); rw [ef]; exact EvP.step (fun r => by rw [dioramaref01_Int.j2]; rfl) hl
  ·have ef : wrap64 (128 + (i : Int)) % 256 = flp n (128 + i) := by
    rw [w64 (by omega) (by omega)]; unfold flp; rw [if_neg hs]; omega
   refine EvP.pos (by omega) (EvP.pos (by simp) ?_); rw [ef]; exact EvP.step (fun r => by rw [dioramaref01_Int.j2]; rfl) hl
 | d + 1, i, h => by
  have ih := refInt_l0 n hn d (i + 1) (by omega); obtain ⟨m0, m1⟩ := mag_bd n hn; have h8 := nb_le (mag n)
  have hp : ¬ mag n < 256 ^ i := fun hp => by
   have := (nb_pow (mag n) (by omega) i (by omega)).2 hp; omega
  have hpos : (0 : Int) < 256 ^ i := Int.pow_pos (by omega)
  have hq : 1 ≤ mag n / 256 ^ i := by
   have := Int.ediv_le_ediv hpos (show (256 : Int) ^ i ≤ mag n by omega); rw [Int.ediv_self (by omega)] at this; exact this
  have hq2 : mag n / 256 ^ i ≤ mag n := Int.ediv_le_self _ m0
  have e1 : mag n / 256 ^ (i + 1) = mag n / 256 ^ i / 256 := by rw [Int.pow_succ, Int.ediv_ediv_of_nonneg (by omega)]
  have e2 : wrap64 (Int.tdiv (mag n / 256 ^ i) 256) = mag n / 256 ^ (i + 1) := by
   rw [Int.tdiv_eq_ediv_of_nonneg (by omega), e1, w64 (by omega) (by omega)]
  have e3 : Int.tmod (mag n / 256 ^ i) 256 % 256 = mag n / 256 ^ i % 256 := by
   rw [Int.tmod_eq_emod_of_nonneg (by omega)]; omega
  rw [dig_succ] at ih; refine EvP.step (fun r => by rw [dioramaref01_Int.l0]) (EvP.pos (by omega) (EvP.pos (by rw [dig_len]; omega) ?_)); rw [e2, e3]; exact ih
theorem refInt_ev (n : Int) (hn : in64 n = true) : Ev (fun k => dioramaref01_Int.f k n) (intR n) := by
 have h := refInt_l0 n hn (nb (mag n)) 0 (by omega)
 have e : mag n / 256 ^ 0 = mag n := by simp
 have e2 : dig (mag n) 0 = [] := rfl; rw [e, e2] at h; have hj : Ev (fun k => dioramaref01_Int.j0 k n (mag n)) (intR n) := EvP.step (fun k => by rw [dioramaref01_Int.j0]) h; unfold dioramaref01_Int.f; rw [in64_iff] at hn
 by_cases hs : n < 0
 ·have em : mag n = wrap64 (-1 - n) := by
   rw [w64 (by omega) (by omega)]; unfold mag; rw [if_pos hs]; omega
  rw [em] at hj; exact EvP.pos hs hj
 ·have em : mag n = n := by
   unfold mag; rw [if_neg hs]
  rw [em] at hj; exact EvP.neg hs hj
theorem refInts_l0 (xs : List Int) (hx : ∀ x ∈ xs, in64 x = true) (hl : xs.length ≤ 1000) : ∀ n i : Nat, i + n = xs.length → Ev (fun k => dioramaref01_Ints.l0 k xs (intR xs.length ++ ((xs.take i).map intR).flatten) i) (intsR xs)
 | 0, i, h => by
  refine EvP.step (fun k => by rw [dioramaref01_Ints.l0]) ?_; refine EvP.neg (by omega) ?_; rw [List.take_of_length_le (by omega)]; exact EvP.const rfl
 | n + 1, i, h => by
  have ih := refInts_l0 xs hx hl n (i + 1) (by omega); refine EvP.step (fun k => by rw [dioramaref01_Ints.l0]) ?_; have h1 := flat_le9 (xs.take i); have h2 := intR_le xs.length; have h3 := intR_le (rd xs i); rw [rd_nat xs i (by omega)] at h3 ⊢; refine EvP.pos (by omega) (EvP.pos (by omega) (Ev.bind (refInt_ev _ (hx _ (List.getElem_mem _))) (EvP.pos ?_ ?_))); (· rw [List.length_append]; rw [List.length_take] at h1; omega)
  ·rw [w64s i (by omega)]
   rw [List.take_succ_eq_append_getElem (show i < xs.length by omega), List.map_append, List.flatten_append, ← List.append_assoc] at ih
   simpa using ih
theorem refInts_ev (xs : List Int) (hx : ∀ x ∈ xs, in64 x = true) (hl : xs.length ≤ 1000) : Ev (fun k => dioramaref01_Ints.f k xs) (intsR xs) := by
 unfold dioramaref01_Ints.f; refine Ev.bind (refInt_ev xs.length (nat64 _ (by omega))) ?_; have := refInts_l0 xs hx hl xs.length 0 (by omega)
 simpa using this
structure OkE (c : S76) : Prop where
 nums : ∀ x ∈ ([c.f0, c.f1, c.f2, c.f3, c.f4] : List Int), in64 x = true
 vals : ∀ x ∈ c.f5, in64 x = true
 len : c.f5.length ≤ 12
def ch6 (c : S76) : S61 := ⟨c.f0, c.f1, c.f2, c.f3, c.f4, c.f5⟩
theorem chE_le {c : S76} (h : OkE c) : (chg (ch6 c)).length ≤ 171 := by
 have h1 := intsR_le [c.f0, c.f1, c.f2, c.f3, c.f4]; have h2 := intsR_le c.f5; have h3 := h.len; rw [chg, List.length_append]; simp only [List.length_cons, List.length_nil, ch6] at h1 ⊢; omega
theorem chEs_le : ∀ cs : List S76, (∀ c ∈ cs, OkE c) → (((cs.map ch6).map chg).flatten).length ≤ 171 * cs.length
 | [], _ => by simp
 | c :: l, h => by
  have h1 := chE_le (h c List.mem_cons_self); have h2 := chEs_le l (fun d hd => h d (List.mem_cons_of_mem _ hd)); rw [List.map_cons, List.map_cons, List.flatten_cons, List.length_append, List.length_cons]; omega
theorem encE_len (cs : List S76) (hc : ∀ c ∈ cs, OkE c) : (encR (cs.map ch6)).length ≤ 171 * cs.length + 9 := by
 have h1 := chEs_le cs hc; have h2 := intR_le (cs.map ch6).length; rw [encR, List.length_append]; omega
theorem take_map_succ (cs : List S76) (i : Nat) (hi : i < cs.length) : (((cs.take (i + 1)).map ch6).map chg).flatten = (((cs.take i).map ch6).map chg).flatten ++ (intsR [(cs[i]'hi).f0, (cs[i]'hi).f1, (cs[i]'hi).f2, (cs[i]'hi).f3, (cs[i]'hi).f4] ++ intsR (cs[i]'hi).f5) := by
 rw [List.take_succ_eq_append_getElem hi, List.map_append, List.map_append, List.flatten_append]
 simp [chg, ch6]
theorem encE_l0 (cs : List S76) (hc : ∀ c ∈ cs, OkE c) (hl : cs.length ≤ 1000000) : ∀ n i : Nat, i + n = cs.length → Ev (fun k => diff_Encode.l0 k (intR (cs.map ch6).length ++ (((cs.take i).map ch6).map chg).flatten) (cs.map ch6) (cs.map ch6).length i) (encR (cs.map ch6))
 | 0, i, h => by
  refine EvP.step (fun k => by rw [diff_Encode.l0]) ?_; refine EvP.neg (by rw [List.length_map]; omega) ?_; rw [List.take_of_length_le (by omega)]; exact EvP.const rfl
 | n + 1, i, h => by
  have ih := encE_l0 cs hc hl n (i + 1) (by omega)
  have hi : i < cs.length := by omega
  have hk := hc cs[i] (List.getElem_mem hi); have hlm : (cs.map ch6).length = cs.length := List.length_map _
  have hrd : rd_T61 (cs.map ch6) i = ch6 (cs[i]'hi) := by rw [rd_T61_nat _ i (by omega), List.getElem_map]
  refine EvP.step (fun k => by rw [diff_Encode.l0]) ?_; refine EvP.pos (by omega) (EvP.pos (by omega) (EvP.pos (by omega) ?_)); rw [hrd]; simp only [ch6]; refine Ev.bind (ints_ev _ hk.nums (by simp)) (Ev.bind (ints_ev _ hk.vals (by have := hk.len; omega)) (EvP.known (r := intR (cs.map ch6).length ++ (((cs.take (i + 1)).map ch6).map chg).flatten) ?_ ?_))
  ·have h1 := chEs_le (cs.take (i + 1)) (fun c h => hc c (List.mem_of_mem_take h))
   have h2 := intR_le (cs.map ch6).length; rw [List.length_take] at h1
   have e : ([intR (cs.map ch6).length ++ (((cs.take i).map ch6).map chg).flatten, intsR [(cs[i]'hi).f0, (cs[i]'hi).f1, (cs[i]'hi).f2, (cs[i]'hi).f3, (cs[i]'hi).f4], intsR (cs[i]'hi).f5] : List (List Int)).flatten = intR (cs.map ch6).length ++ (((cs.take (i + 1)).map ch6).map chg).flatten := by
    rw [take_map_succ cs i hi]
    simp
   unfold slices_Concat_byte.f; rw [e, if_pos]; refine ⟨by simp, ?_⟩; rw [List.length_append]; omega
  (· rw [w64s i (by omega)]; exact ih)
theorem encE_ev (cs : List S76) (hc : ∀ c ∈ cs, OkE c) (hl : cs.length ≤ 1000000) : Ev (fun k => diff_Encode.f k (cs.map ch6)) (encR (cs.map ch6)) := by
 unfold diff_Encode.f; refine EvP.known (r := intR (cs.map ch6).length) (by unfold wire_Int.f; rw [if_pos (nat64 _ (by rw [List.length_map]; omega))]) ?_; have := encE_l0 cs hc hl cs.length 0 (by omega)
 simpa using this
theorem refEnc_l0 (cs : List S76) (hc : ∀ c ∈ cs, OkE c) (hl : cs.length ≤ 1000000) : ∀ n i : Nat, i + n = cs.length → Ev (fun k => dioramaref36_Encode.l0 k cs (intR (cs.map ch6).length ++ (((cs.take i).map ch6).map chg).flatten) i) (encR (cs.map ch6))
 | 0, i, h => by
  refine EvP.step (fun k => by rw [dioramaref36_Encode.l0]) ?_; refine EvP.neg (by omega) ?_; rw [List.take_of_length_le (by omega)]; exact EvP.const rfl
 | n + 1, i, h => by
  have ih := refEnc_l0 cs hc hl n (i + 1) (by omega)
  have hi : i < cs.length := by omega
  have hk := hc cs[i] (List.getElem_mem hi); have h1 := chEs_le (cs.take (i + 1)) (fun c h => hc c (List.mem_of_mem_take h)); have h2 := intR_le (cs.map ch6).length; rw [List.length_take] at h1; have e := take_map_succ cs i hi; have el := congrArg List.length e; rw [List.length_append, List.length_append] at el; rw [e, ← List.append_assoc, ← List.append_assoc] at ih; refine EvP.step (fun k => by rw [dioramaref36_Encode.l0]) ?_; refine EvP.pos (by omega) (EvP.pos (by omega) ?_); rw [rd_T76_nat cs i hi]; refine Ev.bind (refInts_ev _ hk.nums (by simp)) (EvP.pos (by rw [List.length_append]; omega) ?_); refine EvP.known rfl (Ev.bind (refInts_ev _ hk.vals (by have := hk.len; omega)) (EvP.pos (by rw [List.length_append, List.length_append]; omega) ?_)); rw [w64s i (by omega)]; exact ih
theorem refEnc_ev (cs : List S76) (hc : ∀ c ∈ cs, OkE c) (hl : cs.length ≤ 1000000) : Ev (fun k => dioramaref36_Encode.f k cs) (encR (cs.map ch6)) := by
 unfold dioramaref36_Encode.f; refine Ev.bind (refInt_ev cs.length (nat64 _ (by omega))) ?_; have := refEnc_l0 cs hc hl cs.length 0 (by omega)
 simpa using this
theorem sameBytes_l0 (x : List Int) (hx : x.length ≤ 4611686018427387904) : ∀ n i : Nat, i + n = x.length → Ev (fun k => dioramaref01_Same.l0 k x x i) true
 | 0, i, h => EvP.step (fun k => by rw [dioramaref01_Same.l0]) (EvP.neg (by omega) (EvP.const rfl))
 | n + 1, i, h => by
  have ih := sameBytes_l0 x hx n (i + 1) (by omega); refine EvP.step (fun k => by rw [dioramaref01_Same.l0]) (EvP.pos (by omega) (EvP.pos (by omega) (EvP.pos (by omega) (EvP.pos rfl ?_)))); rw [w64s i (by omega)]; exact ih
theorem sameBytes_ev (x : List Int) (hx : x.length ≤ 4611686018427387904) : Ev (fun k => dioramaref01_Same.f k x x) true := by
 unfold dioramaref01_Same.f; exact EvP.pos rfl (sameBytes_l0 x hx x.length 0 (by omega))
def turnF6 (f : Int) : Int := if f = -1 then -2 else if f = -2 then -1 else f
def turn6 (c : S76) : S76 := ⟨c.f0, c.f1, turnF6 c.f2, c.f4, c.f3, c.f5⟩
theorem refTurn_l0 (x : List S76) (hx : x.length < 2199023255552) : ∀ i : Nat, i ≤ x.length → Ev (fun k => dioramaref36_Turn.l0 k x ((x.drop i).reverse.map turn6) ((i : Int) - 1)) (x.reverse.map turn6)
 | 0, h => by
  refine EvP.step (fun k => by rw [dioramaref36_Turn.l0]) ?_; exact EvP.neg (by omega) (EvP.const rfl)
 | i + 1, h => by
  have ih := refTurn_l0 x hx i (by omega)
  have hi : i < x.length := by omega
  have ec : ((i + 1 : Nat) : Int) - 1 = (i : Int) := by omega
  have ew : wrap64 ((i : Int) - 1) = (i : Int) - 1 := w64 (by omega) (by omega); rw [List.drop_eq_getElem_cons hi, List.reverse_cons, List.map_append] at ih
  have hlen : ((x.drop (i + 1)).reverse.map turn6).length < 2199023255552 := by rw [List.length_map, List.length_reverse, List.length_drop]; omega
  rw [ec]; refine EvP.step (fun k => by rw [dioramaref36_Turn.l0]) (EvP.pos (by omega) (EvP.pos (by omega) (EvP.pos (by omega) ?_))); rw [rd_T76_nat x i hi, ew]
  by_cases h1 : (x[i]'hi).f2 = -1
  ·have ht : turn6 (x[i]'hi) = ⟨(x[i]'hi).f0, (x[i]'hi).f1, -2, (x[i]'hi).f4, (x[i]'hi).f3, (x[i]'hi).f5⟩ := by unfold turn6 turnF6; rw [if_pos h1]
   simp only [List.map_cons, List.map_nil, ht] at ih; exact EvP.pos h1 (EvP.neg (by omega) (EvP.pos hlen ih))
  ·by_cases h2 : (x[i]'hi).f2 = -2
   ·have ht : turn6 (x[i]'hi) = ⟨(x[i]'hi).f0, (x[i]'hi).f1, -1, (x[i]'hi).f4, (x[i]'hi).f3, (x[i]'hi).f5⟩ := by unfold turn6 turnF6; rw [if_neg h1, if_pos h2]
    simp only [List.map_cons, List.map_nil, ht] at ih; exact EvP.neg h1 (EvP.pos h2 (EvP.pos hlen ih))
   ·have ht : turn6 (x[i]'hi) = ⟨(x[i]'hi).f0, (x[i]'hi).f1, (x[i]'hi).f2, (x[i]'hi).f4, (x[i]'hi).f3, (x[i]'hi).f5⟩ := by unfold turn6 turnF6; rw [if_neg h1, if_neg h2]
    simp only [List.map_cons, List.map_nil, ht] at ih; exact EvP.neg h1 (EvP.neg h2 (EvP.pos hlen ih))
theorem refTurn_ev (x : List S76) (hx : x.length < 2199023255552) : Ev (fun k => dioramaref36_Turn.f k x) (x.reverse.map turn6) := by
 unfold dioramaref36_Turn.f; have := refTurn_l0 x hx x.length (Nat.le_refl _); rw [w64 (x := (x.length : Int) - 1) (by omega) (by omega)]
 simpa using this
theorem OkE.of {a b c d e : Int} {f : List Int} (ha : in64 a = true) (hb : in64 b = true) (hc : in64 c = true) (hd : in64 d = true) (he : in64 e = true) (hf : ∀ x ∈ f, in64 x = true) (hl : f.length ≤ 12) : OkE ⟨a, b, c, d, e, f⟩ := by
 refine ⟨fun x hx => ?_, hf, hl⟩; simp only [List.mem_cons, List.not_mem_nil, or_false] at hx
 rcases hx with rfl | rfl | rfl | rfl | rfl <;> assumption
theorem OkE.n0 {c : S76} (h : OkE c) : in64 c.f0 = true := h.nums _ (by simp)
theorem OkE.n1 {c : S76} (h : OkE c) : in64 c.f1 = true := h.nums _ (by simp)
theorem OkE.n2 {c : S76} (h : OkE c) : in64 c.f2 = true := h.nums _ (by simp)
theorem OkE.n3 {c : S76} (h : OkE c) : in64 c.f3 = true := h.nums _ (by simp)
theorem OkE.n4 {c : S76} (h : OkE c) : in64 c.f4 = true := h.nums _ (by simp)
def AllE (l : List S76) : Prop := ∀ c ∈ l, OkE c
theorem AllE.rd {l : List S76} (h : AllE l) (i : Int) : OkE (rd_T76 l i) := by
 unfold rd_T76; rw [List.getD_eq_getElem?_getD]
 cases e : l[i.toNat]? with
 | none => exact OkE.of rfl rfl rfl rfl rfl (fun x hx => by cases hx) (by simp)
 | some r => exact h r (List.mem_of_getElem? e)
theorem AllE.set {l : List S76} (h : AllE l) (i : Nat) {c : S76} (hc : OkE c) : AllE (l.set i c) := fun d hd => by
 rcases List.mem_or_eq_of_mem_set hd with h' | h'
 (· exact h d h'); (· rw [h']; exact hc)
theorem AllE.push {l : List S76} (h : AllE l) {c : S76} (hc : OkE c) : AllE (l ++ [c]) := fun d hd => by
 rcases List.mem_append.1 hd with h' | h'
 (· exact h d h'); (· rw [List.mem_singleton.1 h']; exact hc)
theorem rd_six' (n : Int) (h0 : 0 ≤ n) (h1 : n < 6) : 0 ≤ rd [0, 1, 2, 3, 10, 11] n ∧ rd [0, 1, 2, 3, 10, 11] n ≤ 11 := by
 have : n = 0 ∨ n = 1 ∨ n = 2 ∨ n = 3 ∨ n = 4 ∨ n = 5 := by omega
 rcases this with rfl | rfl | rfl | rfl | rfl | rfl <;> decide
theorem bent_ok (l : List S76) (a h b : Int) (ha : in64 a = true) (hh : in64 h = true) (hb : in64 b = true) (hl : l.length ≤ 1000000) (hE : AllE l) : ∃ r, dioramaref36_Bent.f l a h b = some r ∧ r.length ≤ l.length + 1 ∧ AllE r := by
 have sm : ∀ x : Int, -100 ≤ x → x ≤ 100 → in64 x = true := fun x h0 h1 => in64_iff.2 ⟨by omega, by omega⟩
 unfold dioramaref36_Bent.f; rw [if_pos (by simp; omega)]; simp only [List.nil_append, Option.bind_some]
 by_cases h0 : l.length = 0
 (· rw [if_pos (by omega), (arv_spec b 5 hb).1, Option.bind_some, if_pos (by omega)]; obtain ⟨_, b0, b1⟩ := arv_spec b 5 hb; replace b1 := b1 (by decide); refine ⟨_, rfl, by simp, hE.push (OkE.of rfl rfl ?_ rfl rfl (fun x hx => by cases hx) (by simp))⟩; rw [w64 (by omega) (by omega)]; exact sm _ (by omega) (by omega))
 ·rw [if_neg (by omega)]
  obtain ⟨e1, k0, k1⟩ := arv_spec a l.length ha; obtain ⟨e2, n0, n1⟩ := arv_spec b 6 hb; obtain ⟨e3, _, _⟩ := arv_spec h 9 hh; replace k1 := k1 (by omega); replace n1 := n1 (by decide); rw [e1, e2, e3]; simp only [Option.bind_some]; generalize arv a l.length = k at k0 k1; generalize arv b 6 = n at n0 n1; generalize arv h 9 = m; rw [w64 (x := k + 1) (by omega) (by omega), w64 (x := n - 2) (by omega) (by omega)]; have hn := sm (n - 2) (by omega) (by omega); have hk := hE.rd k; obtain ⟨q0, q1⟩ := rd_six' n n0 n1
  by_cases m0 : m = 0
  (· rw [if_pos m0, if_pos k0, if_pos k1]; exact ⟨_, rfl, by simp, hE.set _ (OkE.of hn hk.n1 hk.n2 hk.n3 hk.n4 hk.vals hk.len)⟩); rw [if_neg m0]
  by_cases m1 : m = 1
  (· rw [if_pos m1, if_pos k0, if_pos k1]; exact ⟨_, rfl, by simp, hE.set _ (OkE.of hk.n0 hn hk.n2 hk.n3 hk.n4 hk.vals hk.len)⟩); rw [if_neg m1]
  by_cases m2 : m = 2
  (· rw [if_pos m2, if_pos k0, if_pos k1]; exact ⟨_, rfl, by simp, hE.set _ (OkE.of hk.n0 hk.n1 hn hk.n3 hk.n4 hk.vals hk.len)⟩); rw [if_neg m2]
  by_cases m3 : m = 3
  (· rw [if_pos m3, if_pos k0, if_pos k1]; exact ⟨_, rfl, by simp, hE.set _ (OkE.of hk.n0 hk.n1 hk.n2 hn hk.n4 hk.vals hk.len)⟩); rw [if_neg m3]
  by_cases m4 : m = 4
  (· rw [if_pos m4, if_pos k0, if_pos k1]; exact ⟨_, rfl, by simp, hE.set _ (OkE.of hk.n0 hk.n1 hk.n2 hk.n3 hn hk.vals hk.len)⟩); rw [if_neg m4]
  by_cases m5 : m = 5
  (· rw [if_pos m5, if_pos n0, if_pos (by simpa using n1), if_pos q0, if_pos (by omega), if_pos k0, if_pos k1]; refine ⟨_, rfl, by simp, hE.set _ (OkE.of hk.n0 hk.n1 hk.n2 hk.n3 hk.n4 (fun x hx => ?_) (by rw [List.length_replicate]; omega))⟩; rw [(List.mem_replicate.1 hx).2]; rfl); rw [if_neg m5]
  by_cases m6 : m = 6
  (· rw [if_pos m6, if_pos k0, if_pos (by omega), if_pos (by omega), if_pos (by omega)]; exact ⟨_, rfl, by have := List.length_eraseIdx_le l k.toNat; omega, fun c hc => hE c (List.mem_of_mem_eraseIdx hc)⟩); rw [if_neg m6]
  by_cases m7 : m = 7
  (· rw [if_pos m7, if_pos k0, if_pos k1, if_pos (by omega)]; exact ⟨_, rfl, by simp, hE.push hk⟩); rw [if_neg m7]
  by_cases m8 : k + 1 < l.length
  (· rw [if_pos m8, if_pos k0, if_pos k1, if_pos (by omega)]; exact ⟨_, rfl, by simp, (hE.set _ (hE.rd (k + 1))).set _ hk⟩); (· rw [if_neg m8]; exact ⟨_, rfl, by omega, hE⟩)
theorem AllE.turn {l : List S76} (h : AllE l) : AllE (l.reverse.map turn6) := fun c hc => by
 rw [List.mem_map] at hc; obtain ⟨d, hd, rfl⟩ := hc; have hd := h d (List.mem_reverse.1 hd); refine OkE.of hd.n0 hd.n1 ?_ hd.n4 hd.n3 hd.vals hd.len; unfold turnF6
 split
 (· rfl)
 split
 (· rfl); (· exact hd.n2)
def Wide (w : Wd) : Prop := ∀ rows ∈ w, ∀ r ∈ rows, r.length ≤ 10
theorem Wide.set {w : Wd} (h : Wide w) (k : Nat) {rows : List (List Int)} (hr : ∀ r ∈ rows, r.length ≤ 10) : Wide (w.set k rows) := fun rows' hm => by
 rcases List.mem_or_eq_of_mem_set hm with h' | h'
 (· exact h _ h'); (· rw [h']; exact hr)
theorem Wide.rows {w : Wd} (h : Wide w) (k : Int) : ∀ r ∈ rd_L2 w k, r.length ≤ 10 := by
 unfold rd_L2; rw [List.getD_eq_getElem?_getD]
 cases e : w[k.toNat]? with
 | none => exact fun r hr => by cases hr
 | some rows => exact h rows (List.mem_of_getElem? e)
theorem step_wide {l : Wd} (c : S61) (h : Wide l) (he : (stepS l c).2 = 0) : Wide (stepS l c).1 := by
 obtain ⟨_, _, h1⟩ := step_ok l c he; have hr := h.rows c.f0
 rcases h1 with ⟨_, h5, e⟩ | ⟨_, _, _, e⟩ | ⟨_, h10, h11, _, e⟩
 ·rw [e]
  refine h.set _ (fun r hm => ?_)
  rcases List.mem_append.1 hm with h' | h'
  (· exact hr r h'); (· rw [List.mem_singleton.1 h']; exact h5)
 (· rw [e]; exact h.set _ (fun r hm => hr r (List.mem_of_mem_take hm)))
 ·rw [e]
  refine h.set _ (fun r hm => ?_)
  rcases List.mem_or_eq_of_mem_set hm with h' | h'
  (· exact hr r h'); (· rw [h', List.length_set]; exact hr _ (List.mem_of_getElem? (rd_L1_at _ c.f1 h10 h11)))
theorem steps_wide : ∀ (cs : List S61) (l : Wd), Wide l → Wide (stepsW l cs).1
 | [], l, h => h
 | c :: cs, l, h => by
  simp only [stepsW]
  split
  ·next he => exact steps_wide cs _ (step_wide c h he)
  (· exact h)
theorem shaped_Wide {l : Wd} (h : shapedB l = true) : Wide l := fun rows hm r hr => by
 obtain ⟨k, hk⟩ := List.mem_iff_getElem?.1 hm; obtain ⟨i, hi⟩ := List.mem_iff_getElem?.1 hr; exact (shaped_wide h k rows hk i r hi).2
theorem applyR_size (w : Wd) (cs : List S61) : (applyR w cs).1.length ≤ 1000 ∧ ∀ rows ∈ (applyR w cs).1, rows.length ≤ 1000 ∧ ∀ r ∈ rows, r.length ≤ 1000 := by
 have nil : ([] : Wd).length ≤ 1000 ∧ ∀ rows ∈ ([] : Wd), rows.length ≤ 1000 ∧ ∀ r ∈ rows, r.length ≤ 1000 := ⟨by simp, fun _ h => by cases h⟩; unfold applyR
 split
 (· exact nil)
 next h1 =>
 split
 (· exact nil)
 split
 (· exact nil)
 split
 (· exact nil)
 next h4 =>
 have h1 : shapedB w = true := by simpa using h1
 have hg := stepsW_good w cs (shaped_small h1).2.2; have h6 := (shaped_small h1).1; have hw := steps_wide cs w (shaped_Wide h1); rw [tall_eq] at h4; simp only; refine ⟨by omega, fun rows hr => ⟨?_, fun r hr' => by have := hw rows hr r hr'; omega⟩⟩; have := sumLen_one _ rows hr; omega
def M0 (r : List Int) : Prop := ∀ v ∈ r, in64 v = true
def M1 (rows : List (List Int)) : Prop := ∀ r ∈ rows, M0 r
def M2 (w : Wd) : Prop := ∀ rows ∈ w, M1 rows
theorem M1.rd {rows : List (List Int)} (h : M1 rows) (i : Int) : M0 (rd_L1 rows i) := by
 unfold rd_L1; rw [List.getD_eq_getElem?_getD]
 cases e : rows[i.toNat]? with
 | none => exact fun v hv => by cases hv
 | some r => exact h r (List.mem_of_getElem? e)
theorem M2.rd {w : Wd} (h : M2 w) (i : Int) : M1 (rd_L2 w i) := by
 unfold rd_L2; rw [List.getD_eq_getElem?_getD]
 cases e : w[i.toNat]? with
 | none => exact fun v hv => by cases hv
 | some r => exact h r (List.mem_of_getElem? e)
theorem M2.set {w : Wd} (h : M2 w) (k : Nat) {rows : List (List Int)} (hr : M1 rows) : M2 (w.set k rows) := fun rows' hm => by
 rcases List.mem_or_eq_of_mem_set hm with h' | h'
 (· exact h _ h'); (· rw [h']; exact hr)
theorem nearStep_vals (sh l : List Int) (hl : l.all in64 = true) (i : Int) (w w' : Wd) (hw : M2 w) (h : nearStep sh l i w = some w') : M2 w' := by
 have sm : ∀ x : Int, -100 ≤ x → x ≤ 100 → in64 x = true := fun x h0 h1 => in64_iff.2 ⟨by omega, by omega⟩
 unfold nearStep at h
 split at h
 (· rw [← Option.some.inj h]; exact hw.set _ (fun r hr => hw.rd _ r (List.mem_of_mem_take hr)))
 split at h
 ·split at h
  ·rw [← Option.some.inj h]
   refine hw.set _ (fun r hr => ?_)
   rcases List.mem_append.1 hr with h' | h'
   (· exact hw.rd _ r h'); (· rw [List.mem_singleton.1 h']; intro v hv; rw [(List.mem_replicate.1 hv).2]; obtain ⟨_, a0, a1⟩ := atv_spec l (3 * i + 2) 3 hl; replace a1 := a1 (by decide); exact sm _ (by omega) (by omega))
  ·cases h
 split at h
 ·split at h
  ·cases h
  ·rw [← Option.some.inj h]
   refine hw.set _ (fun r hr => ?_)
   rcases List.mem_or_eq_of_mem_set hr with h' | h'
   (· exact hw.rd _ r h')
   ·rw [h']
    intro v hv
    rcases List.mem_or_eq_of_mem_set hv with h2 | h2
    (· exact (hw.rd _).rd _ v h2); (· rw [h2]; obtain ⟨_, a0, a1⟩ := atv_spec l (3 * i + 2) 12 hl; replace a1 := a1 (by decide); have := Int.tdiv_nonneg (a := atv l (3 * i + 2) 12) (b := 4) a0 (by omega); have := Int.tdiv_le_self (a := atv l (3 * i + 2) 12) 4 a0; exact sm _ (by omega) (by omega))
 (· rw [← Option.some.inj h]; exact hw)
theorem nearLoop_vals (sh l : List Int) (hl : l.all in64 = true) : ∀ (m : Nat) (i : Int) (w w' : Wd), M2 w → nearLoop sh l m i w = some w' → M2 w'
 | 0, i, w, w', hw, h => by
  have h : some w = some w' := h; rw [← Option.some.inj h]; exact hw
 | m + 1, i, w, w', hw, h => by
  unfold nearLoop at h
  split at h
  (· obtain ⟨w1, h1, h2⟩ := Option.bind_eq_some_iff.1 h; exact nearLoop_vals sh l hl m (i + 1) w1 w' (nearStep_vals sh l hl i w w1 hw h1) h2); (· rw [← Option.some.inj h]; exact hw)
theorem near_vals (sh l : List Int) (w w' : Wd) (hw : M2 w) (h : dioramaref36_Near.f w sh l = some w') : M2 w' := by
 unfold dioramaref36_Near.f at h
 split at h
 ·next hs =>
  simp only [Bool.and_eq_true] at hs; exact nearLoop_vals sh l hs.1.2 4 0 w w' hw h
 ·cases h
end Go.Proofs.Ytcgpemefmakjiaa.PX
namespace Go.Proofs.Ytcgpemefmakjiaa.PX
open Go.RowKit Go.Proofs.YtcgpemefmakjiaaW.PrintWords Go.Proofs.YtcgpemefmakjiaaW.PrintLast Go.Proofs.YtcgpemefmakjiaaW.PrintMore
theorem rd_L7_nat (xs : List (List S76)) (i : Nat) (h : i < xs.length) : rd_L7 xs i = xs[i] := by simp [rd_L7, List.getD_eq_getElem?_getD, h]
theorem wrap_in64 (x : Int) : in64 (wrap64 x) = true := by
 rw [in64_iff]; unfold wrap64; omega
theorem turn_both (x : List S76) : (turnR (x.map fromRef)).map toRef = x.reverse.map turn6 := by
 unfold turnR; rw [← List.map_reverse, List.map_map, List.map_map]; rfl
theorem applies_l1 (ls : List (List S76)) (ws : List Wd) (hw3 : ws.length = 3) (hws : ∀ w ∈ ws, sumLen w < 4611686018427387904 ∧ w.length ≤ 4611686018427387904) (i : Nat) (hi : i < ls.length) (hl6 : ls.length ≤ 6)
  (hL : (ls[i]'hi).length ≤ 100000) (hE : AllE (ls[i]'hi)) (hg : Ev (fun k => dioramalaw36_DiffApplies.l0 k ls ws ((i + 1 : Nat) : Int)) true) (n : Nat) : ∀ j : Nat, j + n = 3 → Ev (fun k => dioramalaw36_DiffApplies.l1 k ls ws i j) true := by
 induction n with
 | zero =>
  intro j h; have ht : ∀ c ∈ (ls[i]'hi).reverse.map turn6, OkE c := hE.turn; refine EvP.step (fun k => by rw [dioramalaw36_DiffApplies.l1]) (EvP.neg (by omega) (EvP.pos (by omega) (EvP.pos (by omega) ?_))); rw [rd_L7_nat ls i hi]; generalize ls[i]'hi = x at hL hE ht; refine Ev.bind (own_ev x (by omega)) ?_
  refine EvP.known (r := turnR (x.map fromRef)) (by
   unfold diff_Turn.f
   rw [if_pos ⟨by rw [List.length_map]; omega, fun c hc => by
    rw [List.mem_map] at hc; obtain ⟨d, hd, rfl⟩ := hc; have := (hE d hd).len
    show d.f5.length ≤ _
    omega⟩]) ?_
  refine Ev.bind (plain_ev _ (by simp [turnR]; omega)) ?_; rw [turn_both]; refine Ev.bind (refTurn_ev x (by omega)) ?_; refine Ev.bind (sameAll_ev _ (by rw [List.length_map, List.length_reverse]; omega) (fun c hc => by have := (ht c hc).len; omega)) (EvP.pos rfl ?_); refine Ev.bind (own_ev x (by omega)) ?_; have hel := encE_len x hE; refine Ev.bind (encE_ev x hE (by omega)) (Ev.bind (refEnc_ev x hE (by omega)) (Ev.bind (sameBytes_ev _ (by omega)) (EvP.pos rfl ?_))); rw [w64s i (by omega)]; exact hg
 | succ n ih =>
  intro j h; have ih := ih (j + 1) (by omega); refine EvP.step (fun k => by rw [dioramalaw36_DiffApplies.l1]) ?_; refine EvP.pos (by omega) (EvP.pos (by omega) (EvP.pos (by omega) (EvP.pos (by omega) ?_))); rw [rd_L7_nat ls i hi, rd_L3_nat ws j (by omega), w64s j (by omega)]; have hw := hws ws[j] (List.getElem_mem _); generalize ws[j] = w at hw; generalize ls[i]'hi = x at hL hE; have hs := applyR_size w (x.map fromRef); refine Ev.bind (own_ev x (by omega)) ?_; refine EvP.known (r := applyR w (x.map fromRef)) (by unfold diff_Apply.f; rw [if_pos hw.1]) ?_; refine EvP.known (r := applyR w (x.map fromRef)) (by unfold dioramaref36_Apply.f; rw [if_pos hw]; rfl) ?_; exact EvP.pos rfl (Ev.bind (sameWorld_ev _ hs.1 hs.2) (EvP.pos rfl ih))
theorem applies_l0 (ls : List (List S76)) (ws : List Wd) (hw3 : ws.length = 3) (hws : ∀ w ∈ ws, sumLen w < 4611686018427387904 ∧ w.length ≤ 4611686018427387904) (hl6 : ls.length ≤ 6) (hls : ∀ l ∈ ls, l.length ≤ 100000 ∧ AllE l) (n : Nat) : ∀ i : Nat, i + n = ls.length → Ev (fun k => dioramalaw36_DiffApplies.l0 k ls ws i) true := by
 induction n with
 | zero =>
  intro i h; refine EvP.step (fun k => by rw [dioramalaw36_DiffApplies.l0]) (EvP.neg (by omega) ?_); exact EvP.known (r := true) rfl (EvP.const rfl)
 | succ n ih =>
  intro i h
  have hi : i < ls.length := by omega
  have hx := hls _ (List.getElem_mem hi); refine EvP.step (fun k => by rw [dioramalaw36_DiffApplies.l0]) (EvP.pos (by omega) ?_); exact applies_l1 ls ws hw3 hws i hi hl6 hx.1 hx.2 (ih (i + 1) (by omega)) 3 0 rfl
theorem toRef_E {c : S61} (h : OkC c) : OkE (toRef c) := ⟨h.nums, h.vals, by have := h.len; show c.f5.length ≤ 12; omega⟩
theorem toRef_all {l : List S61} (h : ∀ c ∈ l, OkC c) : AllE (l.map toRef) := fun c hc => by
 rw [List.mem_map] at hc; obtain ⟨d, hd, rfl⟩ := hc; exact toRef_E (h d hd)
end Go.Proofs.Ytcgpemefmakjiaa.PX
namespace Go.Proofs.Ytcgpemefmakjiaa.Pure
open Go.RowKit Go.Proofs.Ytcgpemefmakjiaa.PX Go.Proofs.YtcgpemefmakjiaaW.PrintWords Go.Proofs.YtcgpemefmakjiaaW.PrintLast
theorem DiffApplies : dioramalaw36_DiffApplies.Pure := by
 intro l0 l1 l2 a3 a4 a5 _ _ w0 _ _ w1 _ m2 w2 w3 w4 w5; have i0 := wf_all w0; have i1 := wf_all w1; have i2 := wf_all w2; have i3 := wf_in64 w3; have i4 := wf_in64 w4; have i5 := wf_in64 w5; refine Ev.at_ (F := fun k => dioramalaw36_DiffApplies.f k l0 l1 l2 a3 a4 a5) (r := true) ?_; unfold dioramalaw36_DiffApplies.f; refine EvP.bind (shape_ev l0 i0) (fun s hs => ?_); refine EvP.bind (world_ev2 s l0 i0 hs) (fun a ⟨ha, va⟩ => ?_); refine EvP.bind (world_ev2 s l1 i1 hs) (fun b ⟨hb, vb⟩ => ?_); obtain ⟨near, hn, hnear⟩ := near_ok s l2 i2 (by omega) hs a ha; have vn : V2 near := near_vals s l2 a near va hn; have h3 := hs.1; have hla := ha.1; have fa := (ha.tidy hs).fair; have fb := (hb.tidy hs).fair; have fn := (hnear.tidy hs).fair; have lab := diffL_short hs ha hb a.length (Nat.le_refl _); have lan := diffL_short hs ha hnear a.length (Nat.le_refl _); have oab := toRef_all (diffL_ok hs ha hb va vb a.length (Nat.le_refl _)); have oan := toRef_all (diffL_ok hs ha hnear va vn a.length (Nat.le_refl _)); have eab := diffR_shape hs ha hb; have ean := diffR_shape hs ha hnear; refine Ev.bind (refDiff_ev a b fa.1 fb.1) ?_; rw [eab]; dsimp only; generalize diffL a b a.length = x at lab oab; obtain ⟨d, hd, hdl, hdE⟩ := bent_ok (x.map toRef) a3 a4 a5 i3 i4 i5 (by rw [List.length_map]; omega) oab; refine EvP.known hd (EvP.known hn (Ev.bind (refDiff_ev a near fa.1 fn.1) ?_)); rw [ean]; dsimp only; generalize diffL a near a.length = y at lan oan; obtain ⟨d2, hd2, hdl2, hdE2⟩ := bent_ok d a5 (wrap64 (Int.tdiv a4 9)) a3 i5 (wrap_in64 _) i3 (by rw [List.length_map] at hdl; omega) hdE; refine EvP.known hd2 (Ev.bind (refTurn_ev (x.map toRef) (by rw [List.length_map]; omega)) ?_); refine EvP.known (r := oddR a a3 a4 a5) (by unfold dioramalaw36_odd.f; rw [ha.small hs, i3, i4, i5]; rfl) ?_; have fo := (odd_tidy hs ha a3 a4 a5 i3 i4 i5).fair; rw [List.length_map] at hdl; refine applies_l0 _ _ rfl (fun w hw => ?_) (by simp) (fun l hl => ?_) 6 0 rfl
 ·simp only [List.mem_cons, List.not_mem_nil, or_false] at hw
  have f : ∀ {w : Wd}, Tidy w → sumLen w < 4611686018427387904 ∧ w.length ≤ 4611686018427387904 := fun ht => ⟨ht.fair.2, by have := ht.1; omega⟩
  rcases hw with rfl | rfl | rfl
  (· exact f (ha.tidy hs)); (· exact f (hb.tidy hs)); (· exact f (odd_tidy hs ha a3 a4 a5 i3 i4 i5))
 ·simp only [List.mem_cons, List.not_mem_nil, or_false] at hl
  rcases hl with rfl | rfl | rfl | rfl | rfl | rfl
  (· exact ⟨by rw [List.length_map]; omega, oab⟩); (· exact ⟨by omega, hdE⟩); (· exact ⟨by omega, hdE2⟩); (· exact ⟨by rw [List.length_map, List.length_reverse, List.length_map]; omega, oab.turn⟩); (· exact ⟨by rw [List.length_map]; omega, oan⟩); (· exact ⟨by simp, fun c hc => by cases hc⟩)
end Go.Proofs.Ytcgpemefmakjiaa.Pure
namespace Go.Proofs.Ytcgpemefmakjiaa.diffApplies
open Go.ChangeShapes Go.WideShapes Go.ChangeAt Go.RowKit
open Go.ChangeMaps (open_string shut_string)
theorem own : ownKnob Try.prog.godebug = none := by kernel_rfl
theorem laidOut : laidOutB Try.prog = true := by kernel_rfl
def IsRow (k : IntKind) (w : World) (a : Option Addr) (len cap : Nat) (zs : List Int) : Prop :=
 (a = none ∧ len = 0 ∧ cap = 0 ∧ zs = []) ∨
 ∃ x, a = some x ∧ len ≤ cap ∧ cap ≤ maxLen ∧ zs.length = cap ∧ (∀ i, i < zs.length → w.cell? (x.add i) = some (.int k (zs.getD i 0))) ∧ ∀ n ∈ zs, (Lit.int k n).wf = true
set_option maxRecDepth 100000 in
theorem lifted (os : Os) (started : os.Started) (H : Type) (enc : TypeId × Value → H) :
  ReturnsInHanded {} Try.checked os 6 .any (Rows.diffAppliesSpec.pre6 enc Try.prog Try.f6 Rows.diffAppliesRow.domain false) (Rows.diffAppliesSpec.post enc Try.prog Try.f6 false true false false) := by
 refine returnsInHanded_of_change_sized (C := Try.checked) own started (by kernel_rfl) Try.func6
  (ChangeSpec.witness6 (enc := enc) (C := Try.checked) false ⟨#[], #[.slice none 0 0, .slice none 0 0, .slice none 0 0, .int .i64 0, .int .i64 0, .int .i64 0], []⟩ 8 (by kernel_rfl) (by kernel_rfl) (by kernel_rfl) (by kernel_rfl)) ?_
 intro W base args ds gs before hval0 hW hcnd hsz0 _; have hsz : (DataW.weightsEach Try.prog (Try.f6.params.toList ++ Rows.diffAppliesSpec.plain.varTypes Try.prog) (ds ++ gs)).all (· ≤ reachBytes) = true := hsz0; have hval : ∀ (j : Nat) t v, Try.f6.params[j]? = some t → args[j]? = some v → Value.okWide Try.prog W .any base t v := hval0; have hW' := hW; obtain ⟨p, q, hA0, hV, rfl, hfz, hnd⟩ := hW; have hA : DataW.TrodAll enc Try.prog W 0 (fun _ => true) true Try.f6.params.toList args.toList ds p := hA0; rw [Try.params6] at hA hval hsz; obtain ⟨v0, vs0, d0, ds0, p0, q0, hargs, rfl, rfl, h0, r0⟩ := trodAll_cons hA; obtain ⟨v1, vs1, d1, ds1, p1, q1, rfl, rfl, rfl, h1, r1⟩ := trodAll_cons r0; obtain ⟨v2, vs2, d2, ds2, p2, q2, rfl, rfl, rfl, h2, r2⟩ := trodAll_cons r1; obtain ⟨v3, vs3, d3, ds3, p3, q3, rfl, rfl, rfl, h3, r3⟩ := trodAll_cons r2; obtain ⟨v4, vs4, d4, ds4, p4, q4, rfl, rfl, rfl, h4, r4⟩ := trodAll_cons r3; obtain ⟨v5, vs5, d5, ds5, p5, q5, rfl, rfl, rfl, h5, r5⟩ := trodAll_cons r4; obtain ⟨rfl, rfl, rfl⟩ := trodAll_nil r5
 obtain rfl : args = #[v0, v1, v2, v3, v4, v5] := by cases args; simp_all
 obtain ⟨rfl, rfl⟩ := trodVars_none hV; obtain ⟨a0, len0, cap0, rfl⟩ := okWide_slice Try.underlying22 (hval 0 22 v0 rfl rfl); have k0 := h0
 have lt0 : ∀ x ∈ p0, x.block < W.heap.size := by obtain ⟨m, hm⟩ := k0; exact DataW.trod_lt m _ _ _ hm
 obtain ⟨z0, w0⟩ : ∃ zs, IsRow .i64 W a0 len0 cap0 zs := by
  obtain ⟨fuel, hf⟩ := h0
  rcases open_ints Try.underlying22 Try.underlying3 (by kernel_rfl) hf with ⟨hcs, _⟩ | ⟨x, l, c, zs, hcs, _, hl, hm, hz, _, hcell, hwz⟩
  ·simp [Value.cells] at hcs
   obtain ⟨rfl, rfl, rfl⟩ := hcs; exact ⟨[], .inl ⟨rfl, rfl, rfl, rfl⟩⟩
  ·simp [Value.cells] at hcs
   obtain ⟨rfl, rfl, rfl⟩ := hcs; exact ⟨zs, .inr ⟨_, rfl, hl, hm, by simpa using hz, hcell, hwz⟩⟩
 have y0 : len0 * 8 ≤ 140737488351232 := Go.Proofs.YtcgpemefmakjiaaW.PrintWords.sized_ints hsz (j := 0) (t := 22) rfl rfl Try.underlying22 Try.underlying3 (by kernel_rfl) (by kernel_rfl) h0; obtain ⟨a1, len1, cap1, rfl⟩ := okWide_slice Try.underlying22 (hval 1 22 v1 rfl rfl); have k1 := h1
 have lt1 : ∀ x ∈ p1, x.block < W.heap.size := by obtain ⟨m, hm⟩ := k1; exact DataW.trod_lt m _ _ _ hm
 obtain ⟨z1, w1⟩ : ∃ zs, IsRow .i64 W a1 len1 cap1 zs := by
  obtain ⟨fuel, hf⟩ := h1
  rcases open_ints Try.underlying22 Try.underlying3 (by kernel_rfl) hf with ⟨hcs, _⟩ | ⟨x, l, c, zs, hcs, _, hl, hm, hz, _, hcell, hwz⟩
  ·simp [Value.cells] at hcs
   obtain ⟨rfl, rfl, rfl⟩ := hcs; exact ⟨[], .inl ⟨rfl, rfl, rfl, rfl⟩⟩
  ·simp [Value.cells] at hcs
   obtain ⟨rfl, rfl, rfl⟩ := hcs; exact ⟨zs, .inr ⟨_, rfl, hl, hm, by simpa using hz, hcell, hwz⟩⟩
 have y1 : len1 * 8 ≤ 140737488351232 := Go.Proofs.YtcgpemefmakjiaaW.PrintWords.sized_ints hsz (j := 1) (t := 22) rfl rfl Try.underlying22 Try.underlying3 (by kernel_rfl) (by kernel_rfl) h1; obtain ⟨a2, len2, cap2, rfl⟩ := okWide_slice Try.underlying22 (hval 2 22 v2 rfl rfl); have k2 := h2
 have lt2 : ∀ x ∈ p2, x.block < W.heap.size := by obtain ⟨m, hm⟩ := k2; exact DataW.trod_lt m _ _ _ hm
 obtain ⟨z2, w2⟩ : ∃ zs, IsRow .i64 W a2 len2 cap2 zs := by
  obtain ⟨fuel, hf⟩ := h2
  rcases open_ints Try.underlying22 Try.underlying3 (by kernel_rfl) hf with ⟨hcs, _⟩ | ⟨x, l, c, zs, hcs, _, hl, hm, hz, _, hcell, hwz⟩
  ·simp [Value.cells] at hcs
   obtain ⟨rfl, rfl, rfl⟩ := hcs; exact ⟨[], .inl ⟨rfl, rfl, rfl, rfl⟩⟩
  ·simp [Value.cells] at hcs
   obtain ⟨rfl, rfl, rfl⟩ := hcs; exact ⟨zs, .inr ⟨_, rfl, hl, hm, by simpa using hz, hcell, hwz⟩⟩
 have y2 : len2 * 8 ≤ 140737488351232 := Go.Proofs.YtcgpemefmakjiaaW.PrintWords.sized_ints hsz (j := 2) (t := 22) rfl rfl Try.underlying22 Try.underlying3 (by kernel_rfl) (by kernel_rfl) h2; obtain ⟨a3, rfl, rfl, rfl, w3⟩ := open_int Try.underlying3 (hval 3 3 v3 rfl rfl) h3; obtain ⟨a4, rfl, rfl, rfl, w4⟩ := open_int Try.underlying3 (hval 4 3 v4 rfl rfl) h4; obtain ⟨a5, rfl, rfl, rfl, w5⟩ := open_int Try.underlying3 (hval 5 3 v5 rfl rfl) h5; clear hA0 hval0 hsz0 hsz
 refine (PX.dioramalaw36_DiffApplies.walk Pure.DiffApplies a0 len0 cap0 z0 a1 len1 cap1 z1 a2 len2 cap2 z2 a3 a4 a5 W w0 y0 w1 y1 w2 y2 w3 w4 w5).mono fun e W' ⟨he, bel⟩ => ?_
 subst he; exact ⟨_, rfl, _, _, _, [], _, [], hW', trodAll_mk1 (shut_bool Try.underlying4 _), (trodAll_cons_mk (Below.trod laidOut (by kernel_rfl) (of_decide_eq_true (by kernel_rfl)) k0 bel lt0) (trodAll_cons_mk (Below.trod laidOut (by kernel_rfl) (of_decide_eq_true (by kernel_rfl)) k1 bel lt1) (trodAll_cons_mk (Below.trod laidOut (by kernel_rfl) (of_decide_eq_true (by kernel_rfl)) k2 bel lt2) (trodAll_cons_mk (shut_int Try.underlying3 w3) (trodAll_cons_mk (shut_int Try.underlying3 w4) (trodAll_cons_mk (shut_int Try.underlying3 w5) trodAll_mk0)))))), rfl, bel.frame _, fun h => by cases h⟩
theorem over : Rows.diffAppliesRow.holds Try.pinned (OpenSpec.ofChange Rows.diffAppliesSpec) :=
 OpenClaim.holds_of_wide 6 Try.f6 rfl rfl rfl rfl rfl rfl rfl ⟨rfl, rfl, rfl, rfl, rfl⟩ rfl rfl rfl rfl rfl (by kernel_rfl) Try.func6 (by kernel_rfl)
  (of_decide_eq_true (by kernel_rfl)) (by unfold Func.isWrapper; first | (rw [if_pos (by decide +kernel)]; kernel_rfl) | (rw [if_neg (by decide +kernel)]; exact ⟨rfl, rfl⟩))
  (fun os started H enc _ => lifted os started H enc)
theorem proved : Rows.DiffAppliesSaid := over
end Go.Proofs.Ytcgpemefmakjiaa.diffApplies
namespace Go.Proofs.Ytcgpemefmakjiaa
theorem diffApplies_holds : Rows.DiffAppliesSaid := diffApplies.proved
end Go.Proofs.Ytcgpemefmakjiaa

