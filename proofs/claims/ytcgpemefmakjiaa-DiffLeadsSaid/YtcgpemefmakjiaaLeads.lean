/- DiffLeads: for all lists of numbers that the statement takes, the changes that Diff tells from the first world to the second lead Apply from the one to the other, and turned around back, both ways have as many, and a world differs in nothing from itself; no condition beyond the statement's own. -/
import Derived.Test.YtcgpemefmakjiaaLeads4
import Derived.Test.YtcgpemefmakjiaaLeads2
import Derived.Test.YtcgpemefmakjiaaLeads3
import Derived.Test.YtcgpemefmakjiaaRows
import Derived.WalkKit
import Derived.ProofKit
import Derived.OpenShut
import Derived.ShutString
import Derived.ChangeOld
import Derived.Below
import Derived.SizedLaws
import Derived.Test.YtcgpemefmakjiaaLeads1
namespace Go.Proofs.Ytcgpemefmakjiaa.PX
open Go.RowKit Go.Shelf Go.Proofs.Ytcgpemefmakjiaa.Iter Go.Proofs.YtcgpemefmakjiaaW.PrintWords Go.Proofs.YtcgpemefmakjiaaW.PrintLast Go.Proofs.YtcgpemefmakjiaaW.PrintMore
set_option linter.unusedVariables false
set_option linter.unusedSimpArgs false
attribute [local go_sem] Oper.semAt_some
def turnF (f : Int) : Int := if f = -1 then -2 else if f = -2 then -1 else f
def turnC (c : S61) : S61 := ⟨c.f0, c.f1, turnF c.f2, c.f4, c.f3, c.f5⟩
def turnR (l : List S61) : List S61 := l.reverse.map turnC
def TurnPost (w : World) (r : List S61) (e : Ending) (w' : World) : Prop := ∃ v0_ : Value, e = .returned v0_ ∧ Kd.R k61 61 w' w.heap.size (fun _ => True) v0_ r ∧ Below w.heap.size w w'
theorem turn_leave (w : World) (r : List S61) (tmps : Array Value) (Ds : List Nat) (W : World) (v0 : Value) (h2 : tmps.getD 2 undef = v0) (hm : Marked w.heap.size Ds W)
    (hR : Kd.R k61 61 W w.heap.size (fun _ => True) v0 r) (hB : Below w.heap.size w W) : bodyPostM Fence.wide 5 Try.prog Try.f20 (TurnPost w r) .ret { tmps := tmps, defers := marksOf Ds } W := by
  refine leaves_marks (B := w.heap.size) (fun A => Kd.R k61 61 A w.heap.size (fun _ => True) v0 r ∧ Below w.heap.size w A) (fun A C h hs => ⟨R_stepI h.1 hs (fun _ _ => by simp), hs.below h.2 (Nat.le_refl _) (Nat.le_refl _)⟩) (fun A h => ?_) Ds W hm ⟨hR, hB⟩; refine ⟨_, results_tmp rfl _ _ _, v0, ?_, h.1, h.2⟩; rw [h2]
theorem R_keep {W W' : World} {base b5 : Nat} {cs : Array Value} {v : Value} {xs : List S61} (h : Kd.R k61 61 W base (fun _ => True) v xs) (hm : ∀ k, k ≠ b5 → W'.heap[k]? = W.heap[k]?) (h5 : W.heap[b5]? = some (.cells cs 61 (0, 0))) (hne : some b5 ≠ v.ownBlock) : Kd.R k61 61 W' base (fun _ => True) v xs := by
  obtain ⟨h0, inner, ho, hr⟩ := h; refine ⟨h0, inner, own_move ho (fun k hk => hm k (fun e => hne (by rw [← e]; exact hk.symm))), hr.imp_ (fun _ _ hp => k61.M_mono (fun k hk => hk.1) (k61.M_move (fun k hk => hm k (fun e => ?_)) (k61.M_bound hp)))⟩; obtain ⟨_, _, _, q, hq, cells, hc⟩ := hk; rw [e, h5] at hc
  injection hc with hc
  injection hc with _ hc
  subst hc; exact absurd hq (by decide)
structure TurnS (w : World) (A : Option Addr) (c : Nat) (xs : List S61) (b5 : Nat) (v' : Value) (ys : List S61) (cs : Array Value) (W : World) : Prop where
  box : W.heap[w.heap.size]? = some (.cells #[v'] 30 (0, 0))
  row : Kd.R k61 61 W w.heap.size (fun _ => True) v' ys
  bel : Below w.heap.size w W
  lst : W.heap[w.heap.size + 1]? = some (.cells #[.slice A xs.length c] 30 (0, 0))
  var : W.heap[b5]? = some (.cells cs 61 (0, 0))
  ne : some b5 ≠ v'.ownBlock
  ge : w.heap.size ≤ b5
section
variable {w : World} {A : Option Addr} {c : Nat} {xs : List S61} {b5 : Nat} {v' : Value} {ys : List S61} {cs : Array Value} {W W' : World}
theorem TurnS.below (h : TurnS w A c xs b5 v' ys cs W) (hb : Below W.heap.size W W') : TurnS w A c xs b5 v' ys cs W' :=
  ⟨(hb.block _ (blk_lt h.box)).trans h.box, Kd.R_below h.row hb, h.bel.trans (hb.mono h.bel.size), (hb.block _ (blk_lt h.lst)).trans h.lst, (hb.block _ (blk_lt h.var)).trans h.var, h.ne, h.ge⟩
theorem TurnS.ne_ (h : TurnS w A c xs b5 v' ys cs W) {i : Nat} {d : Array Value} (hi : W.heap[i]? = some (.cells d 30 (0, 0))) : i ≠ b5 := fun e => by
  rw [e, h.var] at hi
  injection hi with hi
  injection hi with _ hi
  exact absurd hi (by decide)
theorem TurnS.set (h : TurnS w A c xs b5 v' ys cs W) (k : Nat) (u : Value) : TurnS w A c xs b5 v' ys (cs.setIfInBounds k u) (W.setCell ⟨b5, k, none⟩ u) :=
  ⟨(Below.heap_setCell _ _ _ _ (h.ne_ h.box)).trans h.box, R_keep h.row (fun k hk => Below.heap_setCell _ _ _ _ hk) h.var h.ne, h.bel.setCell (p := ⟨b5, k, none⟩) h.ge _, (Below.heap_setCell _ _ _ _ (h.ne_ h.lst)).trans h.lst, by have := blk_set h.var k u; simpa using this, h.ne, h.ge⟩
theorem TurnS.keep (h : TurnS w A c xs b5 v' ys cs W) (k : Nat) (u : Value) : KeepBody w.heap.size [30, 61] W (W.setCell ⟨b5, k, none⟩ u) := KeepBody.setCell _ h.ge (fun o ho => by
  rw [show ((⟨b5, k, none⟩ : Addr).block) = b5 from rfl, h.var] at ho
  injection ho with ho
  exact ⟨_, 61, (0, 0), ho.symm, by decide⟩)
end
def TurnJ (w : World) (bo bl : Nat) (A : Option Addr) (c : Nat) (xs : List S61) (s : List Bk) (W : World) : Prop :=
  ∃ v', W.heap[bo]? = some (.cells #[v'] 30 (0, 0)) ∧ Kd.R k61 61 W w.heap.size (fun _ => True) v' (s.map (fun x => turnC x.2.1)) ∧ Below w.heap.size w W ∧ W.heap[bl]? = some (.cells #[.slice A xs.length c] 30 (0, 0))
theorem turn_end {w W W6 : World} {A : Option Addr} {c : Nat} {xs : List S61} {b5 : Nat} {v' : Value} {ys : List S61} {cs : Array Value} {t : S61} (cells : List Value) (h : TurnS w A c xs b5 v' ys cs W6) (hk : KeepBody w.heap.size [30, 61] W W6) (v1 : Value) (w1 : World)
    (hr1 : Kd.R k61 61 w1 w.heap.size (fun _ => True) v1 (ys ++ [t])) (hg1 : (W6.alloc (.cells cells.toArray 61)).grownBy w1 v'.ownBlock) :
    w1.heap[w.heap.size]? = some (.cells #[v'] 30 (0, 0)) ∧ KeepBody w.heap.size [30, 61] W (w1.setCell ⟨w.heap.size, 0, none⟩ v1) ∧
      ∃ v'', (w1.setCell ⟨w.heap.size, 0, none⟩ v1).heap[w.heap.size]? = some (.cells #[v''] 30 (0, 0)) ∧ Kd.R k61 61 (w1.setCell ⟨w.heap.size, 0, none⟩ v1) w.heap.size (fun _ => True) v'' (ys ++ [t]) ∧ Below w.heap.size w (w1.setCell ⟨w.heap.size, 0, none⟩ v1) ∧ (w1.setCell ⟨w.heap.size, 0, none⟩ v1).heap[w.heap.size + 1]? = some (.cells #[.slice A xs.length c] 30 (0, 0)) := by
  have hal : Below W6.heap.size W6 (W6.alloc (.cells cells.toArray 61)) := below_alloc (Below.refl _ _) _; have hne := Kd.R_ne h.row h.box (by decide); have hne2 := Kd.R_ne h.row h.lst (by decide); have hlt1 := blk_lt h.box; have hlt2 := blk_lt h.lst; have hbx1 : w1.heap[w.heap.size]? = some (.cells #[v'] 30 (0, 0)) := (hg1.block _ (by have := hal.size; omega) hne).trans ((hal.block _ hlt1).trans h.box); have hls1 : w1.heap[w.heap.size + 1]? = some (.cells #[.slice A xs.length c] 30 (0, 0)) := (hg1.block _ (by have := hal.size; omega) hne2).trans ((hal.block _ hlt2).trans h.lst)
  have hrow : ∀ r, v'.ownBlock = some r → w.heap.size ≤ r := fun r e => Kd.R_base h.row r e
  have hkb : KeepBody w.heap.size [30, 61] W6 (w1.setCell ⟨w.heap.size, 0, none⟩ v1) :=
    ((KeepBody.alloc _ _ _ _).trans (KeepBody.grown hg1 (fun r e => ⟨hrow r e, fun o ho => by
      obtain ⟨cells, hc⟩ := Kd.R_typed (Kd.R_below h.row hal) r e; rw [hc] at ho
      injection ho with ho
      exact ⟨cells, 61, (0, 0), ho.symm, by decide⟩⟩))).trans (KeepBody.setCell _ (Nat.le_refl _) (fun o ho => by
      rw [show ((⟨w.heap.size, 0, none⟩ : Addr).block) = w.heap.size from rfl, hbx1] at ho
      injection ho with ho
      exact ⟨_, 30, (0, 0), ho.symm, by decide⟩))
  refine ⟨hbx1, hk.trans hkb, v1, ?_, ?_, ?_, ?_⟩
  · have := blk_set hbx1 0 v1
    simpa using this
  (· exact Kd.R_set hr1 hbx1 (by decide) 0 v1); (· exact ((h.bel.trans (hal.mono h.bel.size)).grown hg1 (Nat.le_trans h.bel.size hal.size) (fun r e => hrow r e)).setCell (p := ⟨w.heap.size, 0, none⟩) (Nat.le_refl _) v1); (· exact (Below.heap_setCell _ _ _ _ (by simp)).trans hls1)
set_option maxHeartbeats 2000000 in
set_option maxRecDepth 100000 in
theorem turn_in (A : Option Addr) (c : Nat) (xs : List S61) (w : World) (hr : Kd.C k61 w A xs.length xs) (hc : xs.length ≤ c) (hlen : xs.length ≤ 1000000) (hwd : ∀ x ∈ xs, x.f5.length ≤ 1000000) :
    Calls Try.prog 20 #[.slice A xs.length c] w (TurnPost w (turnR xs)) := by
  refine (callsIn_wide (n := 5)).1 (callsIn_of_wp_marks Try.func20 rfl trivial ?_ rfl); refine wpIn_wide.2 ?_; simp only [Try.ntmps20, List.size_toArray, List.length_cons, List.length_nil, Nat.reduceAdd, Nat.reduceSub, Array.replicate_succ, Array.replicate_zero, List.push_toArray, List.append_toArray, List.nil_append, List.cons_append]; have HR := Aside0.mk hr; have HC := Aside0.mk hc; have HW := Aside0.mk hwd; clear hr hc hwd
  go_wp2_with (go_at_call 45; refine (backward_any _ _ _ _).mono ?_; rintro e w3 ⟨rfl, rfl⟩)
  obtain ⟨W0, hW0⟩ : ∃ W0, W0 = (w.alloc (.cells #[.slice none 0 0] 30)).alloc (.cells #[.slice A xs.length c] 30) := ⟨_, rfl⟩
  have hsz : W0.heap.size = w.heap.size + 2 := by rw [hW0]; simp
  have hb0 : Below w.heap.size w W0 := by rw [hW0]; exact below_alloc (below_alloc (Below.refl _ _) _) _
  have hbo : W0.heap[w.heap.size]? = some (.cells #[.slice none 0 0] 30 (0, 0)) := by
    rw [hW0, Below.heap_alloc _ _ _ (by simp)]; exact heap_alloc_new w _
  have hbl : W0.heap[w.heap.size + 1]? = some (.cells #[.slice A xs.length c] 30 (0, 0)) := by
    rw [hW0]; have := heap_alloc_new (w.alloc (.cells #[.slice none 0 0] 30)) (.cells #[.slice A xs.length c] 30)
    simpa using this
  rw [← hW0]; clear hW0; have HB0 := Aside0.mk hb0; clear hb0
  refine wpIn_wide.1 (wpIn_range_onI (n := 5) (α := Bk) rfl (by omega) (gf := 68) (lb := #[.pointer (some ⟨w.heap.size + 1, 0, none⟩)]) rfl trivial (enters_of Try.func68 (by kernel_rfl) rfl)
    (enc := Bk.enc) (T := Bk.T w xs) (S := fun ys _ => ys.map (·.2.1) = xs.reverse) (N := 1000000) (B := w.heap.size) (ts := [30, 61]) (tI := []) (H := fun W => Below w.heap.size w W ∧ W.heap[w.heap.size + 1]? = some (.cells #[.slice A xs.length c] 30 (0, 0))) (by omega)
    (fun L => ?iter) (fun x => rfl)
    (fun s W => TurnJ w w.heap.size (w.heap.size + 1) A c xs s W)
    (fun x a1 W => ∃ b5 v2, W.heap[b5]? = some (.cells x.cells 61 (0, 0)) ∧ w.heap.size ≤ b5 ∧ W.heap[w.heap.size]? = some (.cells #[v2] 30 (0, 0)) ∧ some b5 ≠ v2.ownBlock ∧ a1 = { tmps := #[.slice A xs.length c, undef, .slice none 0 0, .pointer (some ⟨w.heap.size, 0, none⟩), undef, .pointer (some ⟨b5, 0, none⟩), .slice A xs.length c, .func (.func 68) #[] #[.pointer (some ⟨w.heap.size + 1, 0, none⟩)], .int .i64 x.1, .agg x.cells, undef, undef, undef, undef, undef, undef, undef, undef, undef, undef, undef, undef, undef, undef, undef, undef, undef, undef, undef, undef, undef, undef, undef], defers := [] })
    ?hIH ?hI ?hT (fun _ _ _ h _ => h) ?hAx ?h0 ?assign ?body ?done)
  case iter => exact backward1_iterates _ _ _ _ w _ _ A c xs _ HR.out hlen hlen
  case hIH =>
    rintro s W ⟨v', _, _, hB, hl⟩; exact ⟨hB, hl⟩
  case hI =>
    rintro s P C ⟨v', hb, hr, hB, hl⟩ hst; exact ⟨v', hst.other hb (by decide), R_stepI hr hst (fun _ _ => by simp), hst.below hB (Nat.le_refl _) (by omega), hst.other hl (by decide)⟩
  case hT =>
    rintro x P C h hst; exact h
  case hAx =>
    rintro x a1 P C ⟨b5, v2, h5, hb, hv, hn, e⟩ hst; exact ⟨b5, v2, hst.other h5 (by decide), hb, hst.other hv (by decide), hn, e⟩
  case h0 => exact ⟨_, hbo, Kd.R_nil _ _ _ _ _, HB0.out, hbl⟩
  case assign =>
    rintro l pre ⟨i, ch, vs⟩ W K ⟨v', hb, hr, hB, hl⟩ ht hK; obtain ⟨hmem, A5, c5, es, hl5, hi5⟩ := ht; have es : vs = .slice A5 ch.f5.length c5 := es; subst es; have hal : Below W.heap.size W (W.alloc (.cells (Bk.cells (i, ch, .slice A5 ch.f5.length c5)) 61)) := below_alloc (Below.refl _ _) _
    have HK := Aside0.mk (hK { tmps := #[.slice A xs.length c, undef, .slice none 0 0, .pointer (some ⟨w.heap.size, 0, none⟩), undef, .pointer (some ⟨W.heap.size, 0, none⟩), .slice A xs.length c, .func (.func 68) #[] #[.pointer (some ⟨w.heap.size + 1, 0, none⟩)], .int .i64 i, .agg #[.int .i64 ch.f0, .int .i64 ch.f1, .int .i64 ch.f2, .int .i64 ch.f3, .int .i64 ch.f4, .slice A5 ch.f5.length c5], undef, undef, undef, undef, undef, undef, undef, undef, undef, undef, undef, undef, undef, undef, undef, undef, undef, undef, undef, undef, undef, undef, undef], defers := [] } (W.alloc (.cells (Bk.cells (i, ch, .slice A5 ch.f5.length c5)) 61)) (KeepBody.alloc _ _ _ _)
      ⟨v', (hal.block _ (blk_lt hb)).trans hb, Kd.R_below hr hal, hB.trans (hal.mono hB.size), (hal.block _ (blk_lt hl)).trans hl⟩ ⟨hmem, A5, c5, rfl, hl5, hi5⟩ ⟨W.heap.size, v', heap_alloc_new W _, hB.size, (hal.block _ (blk_lt hb)).trans hb, fun e => Nat.lt_irrefl _ (Kd.R_lt hr _ e.symm), rfl⟩)
    clear hb hr hB hl hK hal hl5 hi5; simp only [Bk.enc, Bk.cells] at HK ⊢
    gi_wp2
    exact HK.out
  case body =>
    rintro l pre ⟨i, ch, vs⟩ a1 W ⟨v', hb, hr, hB, hl⟩ hlen2 ht ⟨b5, v2, h5, hb5, hb2, hne, rfl⟩; obtain ⟨hmem, A5, c5, es, hl5, hi5⟩ := ht; have es : vs = .slice A5 ch.f5.length c5 := es; subst es
    have ev : v2 = v' := by
      rw [hb] at hb2
      injection hb2 with hb2
      injection hb2 with hb2
      injection hb2 with hb2
      injection hb2 with hb2
      exact hb2.symm
    subst ev; simp only [Bk.cells] at h5; have HS0 := Aside0.mk (show TurnS w A c xs b5 v2 (pre.map (fun x => turnC x.2.1)) #[.int .i64 ch.f0, .int .i64 ch.f1, .int .i64 ch.f2, .int .i64 ch.f3, .int .i64 ch.f4, .slice A5 ch.f5.length c5] W from ⟨hb, hr, hB, hl, h5, hne, hb5⟩); have HI5 := Aside0.mk hi5; have HCLN : Aside0 (slices_Clone_int_int.f ch.f5 = some ch.f5) := ⟨by unfold slices_Clone_int_int.f; rw [if_pos (by have h : ch.f5.length ≤ 1000000 := HW.out _ hmem; omega)]⟩
    have hlx : ((pre.map (fun x => turnC x.2.1)).length + 1) * 64 ≤ 140737488355328 := by
      rw [List.length_map]; omega
    have HLX := Aside0.mk hlx; have HSN := Aside0.mk (show (pre ++ [((i, ch, .slice A5 ch.f5.length c5) : Bk)]).map (fun x => turnC x.2.1) = pre.map (fun x => turnC x.2.1) ++ [turnC ch] by rw [List.map_append]; rfl); obtain ⟨ys, hys⟩ : ∃ ys, ys = pre.map (fun x => turnC x.2.1) := ⟨_, rfl⟩; rw [← hys] at HS0 HLX HSN; have hc0 := cell_of_row _ _ 0 _ 61 (0, 0) h5; have hc1 := cell_of_row _ _ 1 _ 61 (0, 0) h5; have hc2 := cell_of_row _ _ 2 _ 61 (0, 0) h5; have hc3 := cell_of_row _ _ 3 _ 61 (0, 0) h5; have hc4 := cell_of_row _ _ 4 _ 61 (0, 0) h5; have hc5 := cell_of_row _ _ 5 _ 61 (0, 0) h5
    have hf2 : W.frozen? ⟨b5, 2, none⟩ = false := by simp [World.frozen?, h5]
    clear hys hlx hmem hi5 hB hr hb hl h5 hne hb2 es hb5
    by_cases f1 : ch.f2 = -1
    · have f2 : True := trivial
      have g1 : (ch.f2 == -1) = true := beq_iff_eq.2 f1
      gi_wp2
      obtain ⟨WX, hWX⟩ : ∃ WX, WX = W.setCell ⟨b5, 2, none⟩ (.int .i64 (-2)) := ⟨_, rfl⟩; have HS1 := Aside0.mk (show TurnS w A c xs b5 v2 ys #[.int .i64 ch.f0, .int .i64 ch.f1, .int .i64 (-2), .int .i64 ch.f3, .int .i64 ch.f4, .slice A5 ch.f5.length c5] WX from by rw [hWX]; exact HS0.out.set 2 _); have HK1 := Aside0.mk (show KeepBody w.heap.size [30, 61] W WX from by rw [hWX]; exact HS0.out.keep 2 _); clear hc0 hc1 hc2 hc3 hc4 hc5 hf2; rw [← hWX]; have HS4 : Aside0 (TurnS w A c xs b5 v2 ys #[.int .i64 ch.f0, .int .i64 ch.f1, .int .i64 (-2), .int .i64 ch.f3, .int .i64 ch.f4, .slice A5 ch.f5.length c5] WX.drew) := ⟨HS1.out.below (below_drew (Below.refl _ _))⟩; have HK4 : Aside0 (KeepBody w.heap.size [30, 61] W WX.drew) := ⟨HK1.out.trans (KeepBody.grown (grown_of_below (below_drew (Below.refl _ _)) none) (fun r e => by cases e))⟩; have hc3 : WX.drew.cell? ⟨b5, 3, none⟩ = some (.int .i64 ch.f3) := cell_of_row _ _ 3 _ 61 (0, 0) HS4.out.var; have hc4 : WX.drew.cell? ⟨b5, 4, none⟩ = some (.int .i64 ch.f4) := cell_of_row _ _ 4 _ 61 (0, 0) HS4.out.var; have hc5 : WX.drew.cell? ⟨b5, 5, none⟩ = some (.slice A5 ch.f5.length c5) := cell_of_row _ _ 5 _ 61 (0, 0) HS4.out.var; clear HS1 HK1; refine Iter.startIn_ (k := 13) (S := fun w' => w'.cell? ⟨b5, 3, none⟩ = some (.int .i64 ch.f3) ∧ w'.cell? ⟨b5, 4, none⟩ = some (.int .i64 ch.f4) ∧ w'.cell? ⟨b5, 5, none⟩ = some (.slice A5 ch.f5.length c5)) (ds := [8, 10, 12]) #[O_,O_,O_,O_,O_,O_,O_,O_,O_,O_,O_,O_,O_] (by kernel_rfl) (fun h => by obtain ⟨_, _, h⟩ := h; exact h) (by kernel_rfl) rfl rfl ⟨hc3, hc4, hc5⟩ (fun hHeld => ?_); generalize WX.drew = w4 at HS4 HK4 hHeld hc3 hc4 hc5 ⊢; refine pure_ (i := 0) (N := some 18) (v := ?_) (a' := ?_) #[I_,O_,O_,O_,O_,O_,O_,O_,O_,O_,O_,O_,O_] rfl rfl (by kernel_rfl) (fun _ _ _ h => h) (Or.inl ⟨by rfl, ?_⟩) ?_ ?_; rotate_left; (· intro w'; go_simp; with_reducible rfl); rotate_left; (· simp only [Act.put, sA_, sB_, sC_, i64_w, i32_w]; rfl); refine pure_ (i := 2) (N := some 20) (v := ?_) (a' := ?_) #[I_,O_,I_,O_,O_,O_,O_,O_,O_,O_,O_,O_,O_] rfl rfl (by kernel_rfl) (fun _ _ _ h => h) (Or.inl ⟨by rfl, ?_⟩) ?_ ?_; rotate_left; (· intro w'; go_simp; with_reducible rfl); rotate_left; (· simp only [Act.put, sA_, sB_, sC_, i64_w, i32_w]; rfl); refine pure_ (i := 4) (N := some 22) (v := ?_) (a' := ?_) #[I_,O_,I_,O_,I_,O_,O_,O_,O_,O_,O_,O_,O_] rfl rfl (by kernel_rfl) (fun _ _ _ h => h) (Or.inl ⟨by rfl, ?_⟩) ?_ ?_; rotate_left; (· intro w'; go_simp; with_reducible rfl); rotate_left; (· simp only [Act.put, sA_, sB_, sC_, i64_w, i32_w]; rfl); refine take_ (i := 1) (N := some 19) (v := ?_) (a' := ?_) #[I_,I_,I_,O_,I_,O_,O_,O_,O_,O_,O_,O_,O_] rfl rfl (by kernel_rfl) (fun _ _ _ h => h) (Or.inl ⟨by rfl, ?_⟩) hHeld ?_ ?_
      rotate_left; (· rintro w' ⟨s0, s1, s2⟩; go_simp; with_reducible rfl); rotate_left; (· simp only [Act.put, sA_, sB_, sC_, i64_w, i32_w]; rfl); refine take_ (i := 3) (N := some 21) (v := ?_) (a' := ?_) #[I_,I_,I_,I_,I_,O_,O_,O_,O_,O_,O_,O_,O_] rfl rfl (by kernel_rfl) (fun _ _ _ h => h) (Or.inl ⟨by rfl, ?_⟩) hHeld ?_ ?_; rotate_left; (· rintro w' ⟨s0, s1, s2⟩; go_simp; with_reducible rfl); rotate_left; (· simp only [Act.put, sA_, sB_, sC_, i64_w, i32_w]; rfl); refine take_ (i := 5) (N := some 23) (v := ?_) (a' := ?_) #[I_,I_,I_,I_,I_,I_,O_,O_,O_,O_,O_,O_,O_] rfl rfl (by kernel_rfl) (fun _ _ _ h => h) (Or.inl ⟨by rfl, ?_⟩) hHeld ?_ ?_; rotate_left; (· rintro w' ⟨s0, s1, s2⟩; go_simp; with_reducible rfl); rotate_left; (· simp only [Act.put, sA_, sB_, sC_, i64_w, i32_w]; rfl); refine pure_ (i := 7) (N := some 25) (v := ?_) (a' := ?_) #[I_,I_,I_,I_,I_,I_,O_,I_,O_,O_,O_,O_,O_] rfl rfl (by kernel_rfl) (fun _ _ _ h => h) (Or.inl ⟨by rfl, ?_⟩) ?_ ?_; rotate_left; (· intro w'; go_simp; with_reducible rfl); rotate_left; (· simp only [Act.put, sA_, sB_, sC_, i64_w, i32_w]; rfl); refine one_ (i := 6) (N := some 24) #[I_,I_,I_,I_,I_,I_,I_,I_,O_,O_,O_,O_,O_] rfl rfl (by kernel_rfl) (by decide) (fun K hK => ?_); refine goes_ Try.func43 (by kernel_rfl) rfl #[.slice A5 ch.f5.length c5] (by rfl) rfl rfl (by simp only [List.map_toArray, List.map_cons, List.map_nil]; rfl) ?_
      with_reducible refine (slices_Clone_int_int.calls A5 c5 ch.f5 ch.f5 w4 (Kd.C_below HI5.out HS4.out.bel) hl5 HCLN.out).mono ?_
      rintro e w5 ⟨vc, rfl, hR, hB2⟩; refine ⟨_, rfl, ?_⟩; obtain ⟨Av, cv, rfl⟩ := Kd.R_slice hR; have HS5 := Aside0.mk (HS4.out.below hB2); have HR5 := Aside0.mk (Kd.R_lower hR HS4.out.bel.size); have HK5 := Aside0.mk (HK4.out.trans (KeepBody.grown (grown_of_below hB2 none) (fun r e => by cases e))); have hc0 := cell_of_row _ _ 0 _ 61 (0, 0) HS5.out.var; have hc1 := cell_of_row _ _ 1 _ 61 (0, 0) HS5.out.var; have hc2 := cell_of_row _ _ 2 _ 61 (0, 0) HS5.out.var; have hc3 := cell_of_row _ _ 3 _ 61 (0, 0) HS5.out.var; have hc4 := cell_of_row _ _ 4 _ 61 (0, 0) HS5.out.var; have hc5 := cell_of_row _ _ 5 _ 61 (0, 0) HS5.out.var
      have hf3 : w5.frozen? ⟨b5, 3, none⟩ = false := by simp [World.frozen?, HS5.out.var]
      have hf4 : w5.frozen? ⟨b5, 4, none⟩ = false := by simp [World.frozen?, HS5.out.var]
      have hf5 : w5.frozen? ⟨b5, 5, none⟩ = false := by simp [World.frozen?, HS5.out.var]
      clear hR hB2; refine hK.out _ _ ⟨hc3, hc4, hc5⟩ (fun hHeld => ?_); clear hK K; refine norm_ (a' := ?_) ?_ ?_; rotate_left
      · show Act.put _ (some 24) _ = _
        simp only [Act.put, sA_, sB_, sC_, i64_w, i32_w]; rfl
      refine last_ (i := 8) (N := none) #[I_,I_,I_,I_,I_,I_,I_,I_,I_,O_,O_,O_,O_] rfl rfl (by kernel_rfl) (by decide) (fun K hK => ?_); refine skip_ (w1 := ?_) (by rfl) rfl ?_ ?_; rotate_left; (· go_simp; rfl); refine hK.out _ _ ?_; clear hK K; refine pure_ (i := 9) (N := some 26) (v := ?_) (a' := ?_) #[I_,I_,I_,I_,I_,I_,I_,I_,I_,I_,O_,O_,O_] rfl rfl (by kernel_rfl) (fun _ _ _ h => h) (Or.inl ⟨by rfl, ?_⟩) ?_ ?_; rotate_left; (· intro w'; go_simp; with_reducible rfl); rotate_left; (· simp only [Act.put, sA_, sB_, sC_, i64_w, i32_w]; rfl); refine last_ (i := 10) (N := none) #[I_,I_,I_,I_,I_,I_,I_,I_,I_,I_,I_,O_,O_] rfl rfl (by kernel_rfl) (by decide) (fun K hK => ?_); refine skip_ (w1 := ?_) (by rfl) rfl ?_ ?_; rotate_left; (· go_simp; rfl); refine hK.out _ _ ?_; clear hK K; refine pure_ (i := 11) (N := some 27) (v := ?_) (a' := ?_) #[I_,I_,I_,I_,I_,I_,I_,I_,I_,I_,I_,I_,O_] rfl rfl (by kernel_rfl) (fun _ _ _ h => h) (Or.inl ⟨by rfl, ?_⟩) ?_ ?_; rotate_left; (· intro w'; go_simp; with_reducible rfl); rotate_left; (· simp only [Act.put, sA_, sB_, sC_, i64_w, i32_w]; rfl); refine last_ (i := 12) (N := none) #[I_,I_,I_,I_,I_,I_,I_,I_,I_,I_,I_,I_,I_] rfl rfl (by kernel_rfl) (by decide) (fun K hK => ?_); refine skip_ (w1 := ?_) (by rfl) rfl ?_ ?_; rotate_left; (· go_simp; rfl); refine hK.out _ _ ?_; clear hK K; refine done_ (by kernel_rfl) ?_; have HS6 := Aside0.mk (((HS5.out.set 3 (.int .i64 ch.f4)).set 4 (.int .i64 ch.f3)).set 5 (.slice Av ch.f5.length cv)); have HK6 := Aside0.mk (((HK5.out.trans (HS5.out.keep 3 (.int .i64 ch.f4))).trans ((HS5.out.set 3 (.int .i64 ch.f4)).keep 4 (.int .i64 ch.f3))).trans (((HS5.out.set 3 (.int .i64 ch.f4)).set 4 (.int .i64 ch.f3)).keep 5 (.slice Av ch.f5.length cv))); have HR6 := Aside0.mk (Kd.R_set (Kd.R_set (Kd.R_set HR5.out HS5.out.var (by decide) 3 (.int .i64 ch.f4)) (HS5.out.set 3 (.int .i64 ch.f4)).var (by decide) 4 (.int .i64 ch.f3)) ((HS5.out.set 3 (.int .i64 ch.f4)).set 4 (.int .i64 ch.f3)).var (by decide) 5 (.slice Av ch.f5.length cv)); have HT := Aside0.mk (show turnC ch = ⟨ch.f0, ch.f1, (-2), ch.f4, ch.f3, ch.f5⟩ by unfold turnC turnF; simp [f1, f2]); rw [HT.out] at HSN; obtain ⟨W6, hW6⟩ : ∃ W6, W6 = ((w5.setCell ⟨b5, 3, none⟩ (.int .i64 ch.f4)).setCell ⟨b5, 4, none⟩ (.int .i64 ch.f3)).setCell ⟨b5, 5, none⟩ (.slice Av ch.f5.length cv) := ⟨_, rfl⟩; rw [← hW6] at HS6 HK6 HR6 ⊢; clear hW6 HS5 HK5 HR5 HT hc0 hc1 hc2 hc3 hc4 hc5 hf3 hf4 hf5; have HMP := Aside0.mk (M_ne (k61_mkM W6 w.heap.size (fun _ => True) (⟨ch.f0, ch.f1, (-2), ch.f4, ch.f3, ch.f5⟩ : S61) HR6.out) HS6.out.row); have HEND := Aside0.mk (turn_end (t := ⟨ch.f0, ch.f1, (-2), ch.f4, ch.f3, ch.f5⟩) [.int .i64 ch.f0, .int .i64 ch.f1, .int .i64 (-2), .int .i64 ch.f4, .int .i64 ch.f3, .slice Av ch.f5.length cv] HS6.out HK6.out); obtain ⟨A2, c2, ev⟩ := Kd.R_slice HS6.out.row
      obtain ⟨nv, hnv⟩ : ∃ nv, nv = ys.length := ⟨_, rfl⟩; rw [← hnv] at ev; subst ev; clear hnv; have hc0 := cell_of_row _ _ 0 _ 61 (0, 0) HS6.out.var; have hc1 := cell_of_row _ _ 1 _ 61 (0, 0) HS6.out.var; have hc2 := cell_of_row _ _ 2 _ 61 (0, 0) HS6.out.var; have hc3 := cell_of_row _ _ 3 _ 61 (0, 0) HS6.out.var; have hc4 := cell_of_row _ _ 4 _ 61 (0, 0) HS6.out.var; have hc5 := cell_of_row _ _ 5 _ 61 (0, 0) HS6.out.var; have hcb := cell_of_row _ _ 0 _ 30 (0, 0) HS6.out.box; have hu61 := Try.underlying61
      gi_wp2_with ((gi_at_builtin; refine R_append_in k61 (W := W6) w.heap.size rfl (.tmp 28) (.tmp 30) 30 61 (.agg #[(.int .i64 0), (.int .i64 0), (.int .i64 0), (.int .i64 0), (.int .i64 0), (.slice none 0 0)]) 64 rfl Try.underlying30 info61 rfl (by decide) (by omega) (.slice A2 nv c2) ys (⟨ch.f0, ch.f1, (-2), ch.f4, ch.f3, ch.f5⟩ : S61) [.int .i64 ch.f0, .int .i64 ch.f1, .int .i64 (-2), .int .i64 ch.f4, .int .i64 ch.f3, .slice Av ch.f5.length cv] (fun _ => True) (fun k_ => True ∧ some k_ ≠ (.slice A2 nv c2 : Value).ownBlock) rfl rfl HMP.out (fun _ hk => hk) (fun _ _ => trivial) HS6.out.row HS6.out.bel.size HLX.out ?_; intro v1 w1 hr1 hg1 hv1; obtain ⟨A1, c1', e1⟩ := hv1; obtain ⟨n1, hn1⟩ : ∃ n1, n1 = ys.length + 1 := ⟨_, rfl⟩; rw [← hn1] at e1; subst e1; clear hn1; have HE := HEND.out _ w1 hr1 hg1; obtain ⟨hbx1, hE2⟩ := HE; have HE2 := Aside0.mk hE2; have hcb1 := cell_of_row _ _ 0 _ 30 (0, 0) hbx1; have hfb1 : w1.frozen? ⟨w.heap.size, 0, none⟩ = false := (by simp [World.frozen?, hbx1]); clear hbx1 hE2 hr1 hg1))
      obtain ⟨hk9, v9, q1, q2, q3, q4⟩ := HE2.out; exact ⟨hk9, v9, q1, by rw [HSN.out]; exact q2, q3, q4⟩
    by_cases f2 : ch.f2 = -2
    · have g1 : (ch.f2 == -1) = false := beq_eq_false_iff_ne.2 f1
      have g2 : (ch.f2 == -2) = true := beq_iff_eq.2 f2
      gi_wp2
      obtain ⟨WX, hWX⟩ : ∃ WX, WX = W.setCell ⟨b5, 2, none⟩ (.int .i64 (-1)) := ⟨_, rfl⟩; have HS1 := Aside0.mk (show TurnS w A c xs b5 v2 ys #[.int .i64 ch.f0, .int .i64 ch.f1, .int .i64 (-1), .int .i64 ch.f3, .int .i64 ch.f4, .slice A5 ch.f5.length c5] WX from by rw [hWX]; exact HS0.out.set 2 _); have HK1 := Aside0.mk (show KeepBody w.heap.size [30, 61] W WX from by rw [hWX]; exact HS0.out.keep 2 _); clear hc0 hc1 hc2 hc3 hc4 hc5 hf2; rw [← hWX]; have HS4 : Aside0 (TurnS w A c xs b5 v2 ys #[.int .i64 ch.f0, .int .i64 ch.f1, .int .i64 (-1), .int .i64 ch.f3, .int .i64 ch.f4, .slice A5 ch.f5.length c5] WX.drew) := ⟨HS1.out.below (below_drew (Below.refl _ _))⟩; have HK4 : Aside0 (KeepBody w.heap.size [30, 61] W WX.drew) := ⟨HK1.out.trans (KeepBody.grown (grown_of_below (below_drew (Below.refl _ _)) none) (fun r e => by cases e))⟩; have hc3 : WX.drew.cell? ⟨b5, 3, none⟩ = some (.int .i64 ch.f3) := cell_of_row _ _ 3 _ 61 (0, 0) HS4.out.var; have hc4 : WX.drew.cell? ⟨b5, 4, none⟩ = some (.int .i64 ch.f4) := cell_of_row _ _ 4 _ 61 (0, 0) HS4.out.var; have hc5 : WX.drew.cell? ⟨b5, 5, none⟩ = some (.slice A5 ch.f5.length c5) := cell_of_row _ _ 5 _ 61 (0, 0) HS4.out.var; clear HS1 HK1; refine Iter.startIn_ (k := 13) (S := fun w' => w'.cell? ⟨b5, 3, none⟩ = some (.int .i64 ch.f3) ∧ w'.cell? ⟨b5, 4, none⟩ = some (.int .i64 ch.f4) ∧ w'.cell? ⟨b5, 5, none⟩ = some (.slice A5 ch.f5.length c5)) (ds := [8, 10, 12]) #[O_,O_,O_,O_,O_,O_,O_,O_,O_,O_,O_,O_,O_] (by kernel_rfl) (fun h => by obtain ⟨_, _, h⟩ := h; exact h) (by kernel_rfl) rfl rfl ⟨hc3, hc4, hc5⟩ (fun hHeld => ?_); generalize WX.drew = w4 at HS4 HK4 hHeld hc3 hc4 hc5 ⊢; refine pure_ (i := 0) (N := some 18) (v := ?_) (a' := ?_) #[I_,O_,O_,O_,O_,O_,O_,O_,O_,O_,O_,O_,O_] rfl rfl (by kernel_rfl) (fun _ _ _ h => h) (Or.inl ⟨by rfl, ?_⟩) ?_ ?_; rotate_left; (· intro w'; go_simp; with_reducible rfl); rotate_left; (· simp only [Act.put, sA_, sB_, sC_, i64_w, i32_w]; rfl); refine pure_ (i := 2) (N := some 20) (v := ?_) (a' := ?_) #[I_,O_,I_,O_,O_,O_,O_,O_,O_,O_,O_,O_,O_] rfl rfl (by kernel_rfl) (fun _ _ _ h => h) (Or.inl ⟨by rfl, ?_⟩) ?_ ?_; rotate_left; (· intro w'; go_simp; with_reducible rfl); rotate_left; (· simp only [Act.put, sA_, sB_, sC_, i64_w, i32_w]; rfl); refine pure_ (i := 4) (N := some 22) (v := ?_) (a' := ?_) #[I_,O_,I_,O_,I_,O_,O_,O_,O_,O_,O_,O_,O_] rfl rfl (by kernel_rfl) (fun _ _ _ h => h) (Or.inl ⟨by rfl, ?_⟩) ?_ ?_; rotate_left; (· intro w'; go_simp; with_reducible rfl); rotate_left; (· simp only [Act.put, sA_, sB_, sC_, i64_w, i32_w]; rfl); refine take_ (i := 1) (N := some 19) (v := ?_) (a' := ?_) #[I_,I_,I_,O_,I_,O_,O_,O_,O_,O_,O_,O_,O_] rfl rfl (by kernel_rfl) (fun _ _ _ h => h) (Or.inl ⟨by rfl, ?_⟩) hHeld ?_ ?_
      rotate_left; (· rintro w' ⟨s0, s1, s2⟩; go_simp; with_reducible rfl); rotate_left; (· simp only [Act.put, sA_, sB_, sC_, i64_w, i32_w]; rfl); refine take_ (i := 3) (N := some 21) (v := ?_) (a' := ?_) #[I_,I_,I_,I_,I_,O_,O_,O_,O_,O_,O_,O_,O_] rfl rfl (by kernel_rfl) (fun _ _ _ h => h) (Or.inl ⟨by rfl, ?_⟩) hHeld ?_ ?_; rotate_left; (· rintro w' ⟨s0, s1, s2⟩; go_simp; with_reducible rfl); rotate_left; (· simp only [Act.put, sA_, sB_, sC_, i64_w, i32_w]; rfl); refine take_ (i := 5) (N := some 23) (v := ?_) (a' := ?_) #[I_,I_,I_,I_,I_,I_,O_,O_,O_,O_,O_,O_,O_] rfl rfl (by kernel_rfl) (fun _ _ _ h => h) (Or.inl ⟨by rfl, ?_⟩) hHeld ?_ ?_; rotate_left; (· rintro w' ⟨s0, s1, s2⟩; go_simp; with_reducible rfl); rotate_left; (· simp only [Act.put, sA_, sB_, sC_, i64_w, i32_w]; rfl); refine pure_ (i := 7) (N := some 25) (v := ?_) (a' := ?_) #[I_,I_,I_,I_,I_,I_,O_,I_,O_,O_,O_,O_,O_] rfl rfl (by kernel_rfl) (fun _ _ _ h => h) (Or.inl ⟨by rfl, ?_⟩) ?_ ?_; rotate_left; (· intro w'; go_simp; with_reducible rfl); rotate_left; (· simp only [Act.put, sA_, sB_, sC_, i64_w, i32_w]; rfl); refine one_ (i := 6) (N := some 24) #[I_,I_,I_,I_,I_,I_,I_,I_,O_,O_,O_,O_,O_] rfl rfl (by kernel_rfl) (by decide) (fun K hK => ?_); refine goes_ Try.func43 (by kernel_rfl) rfl #[.slice A5 ch.f5.length c5] (by rfl) rfl rfl (by simp only [List.map_toArray, List.map_cons, List.map_nil]; rfl) ?_
      with_reducible refine (slices_Clone_int_int.calls A5 c5 ch.f5 ch.f5 w4 (Kd.C_below HI5.out HS4.out.bel) hl5 HCLN.out).mono ?_
      rintro e w5 ⟨vc, rfl, hR, hB2⟩; refine ⟨_, rfl, ?_⟩; obtain ⟨Av, cv, rfl⟩ := Kd.R_slice hR; have HS5 := Aside0.mk (HS4.out.below hB2); have HR5 := Aside0.mk (Kd.R_lower hR HS4.out.bel.size); have HK5 := Aside0.mk (HK4.out.trans (KeepBody.grown (grown_of_below hB2 none) (fun r e => by cases e))); have hc0 := cell_of_row _ _ 0 _ 61 (0, 0) HS5.out.var; have hc1 := cell_of_row _ _ 1 _ 61 (0, 0) HS5.out.var; have hc2 := cell_of_row _ _ 2 _ 61 (0, 0) HS5.out.var; have hc3 := cell_of_row _ _ 3 _ 61 (0, 0) HS5.out.var; have hc4 := cell_of_row _ _ 4 _ 61 (0, 0) HS5.out.var; have hc5 := cell_of_row _ _ 5 _ 61 (0, 0) HS5.out.var
      have hf3 : w5.frozen? ⟨b5, 3, none⟩ = false := by simp [World.frozen?, HS5.out.var]
      have hf4 : w5.frozen? ⟨b5, 4, none⟩ = false := by simp [World.frozen?, HS5.out.var]
      have hf5 : w5.frozen? ⟨b5, 5, none⟩ = false := by simp [World.frozen?, HS5.out.var]
      clear hR hB2; refine hK.out _ _ ⟨hc3, hc4, hc5⟩ (fun hHeld => ?_); clear hK K; refine norm_ (a' := ?_) ?_ ?_; rotate_left
      · show Act.put _ (some 24) _ = _
        simp only [Act.put, sA_, sB_, sC_, i64_w, i32_w]; rfl
      refine last_ (i := 8) (N := none) #[I_,I_,I_,I_,I_,I_,I_,I_,I_,O_,O_,O_,O_] rfl rfl (by kernel_rfl) (by decide) (fun K hK => ?_); refine skip_ (w1 := ?_) (by rfl) rfl ?_ ?_; rotate_left; (· go_simp; rfl); refine hK.out _ _ ?_; clear hK K; refine pure_ (i := 9) (N := some 26) (v := ?_) (a' := ?_) #[I_,I_,I_,I_,I_,I_,I_,I_,I_,I_,O_,O_,O_] rfl rfl (by kernel_rfl) (fun _ _ _ h => h) (Or.inl ⟨by rfl, ?_⟩) ?_ ?_; rotate_left; (· intro w'; go_simp; with_reducible rfl); rotate_left; (· simp only [Act.put, sA_, sB_, sC_, i64_w, i32_w]; rfl); refine last_ (i := 10) (N := none) #[I_,I_,I_,I_,I_,I_,I_,I_,I_,I_,I_,O_,O_] rfl rfl (by kernel_rfl) (by decide) (fun K hK => ?_); refine skip_ (w1 := ?_) (by rfl) rfl ?_ ?_; rotate_left; (· go_simp; rfl); refine hK.out _ _ ?_; clear hK K; refine pure_ (i := 11) (N := some 27) (v := ?_) (a' := ?_) #[I_,I_,I_,I_,I_,I_,I_,I_,I_,I_,I_,I_,O_] rfl rfl (by kernel_rfl) (fun _ _ _ h => h) (Or.inl ⟨by rfl, ?_⟩) ?_ ?_; rotate_left; (· intro w'; go_simp; with_reducible rfl); rotate_left; (· simp only [Act.put, sA_, sB_, sC_, i64_w, i32_w]; rfl); refine last_ (i := 12) (N := none) #[I_,I_,I_,I_,I_,I_,I_,I_,I_,I_,I_,I_,I_] rfl rfl (by kernel_rfl) (by decide) (fun K hK => ?_); refine skip_ (w1 := ?_) (by rfl) rfl ?_ ?_; rotate_left; (· go_simp; rfl); refine hK.out _ _ ?_; clear hK K; refine done_ (by kernel_rfl) ?_; have HS6 := Aside0.mk (((HS5.out.set 3 (.int .i64 ch.f4)).set 4 (.int .i64 ch.f3)).set 5 (.slice Av ch.f5.length cv)); have HK6 := Aside0.mk (((HK5.out.trans (HS5.out.keep 3 (.int .i64 ch.f4))).trans ((HS5.out.set 3 (.int .i64 ch.f4)).keep 4 (.int .i64 ch.f3))).trans (((HS5.out.set 3 (.int .i64 ch.f4)).set 4 (.int .i64 ch.f3)).keep 5 (.slice Av ch.f5.length cv))); have HR6 := Aside0.mk (Kd.R_set (Kd.R_set (Kd.R_set HR5.out HS5.out.var (by decide) 3 (.int .i64 ch.f4)) (HS5.out.set 3 (.int .i64 ch.f4)).var (by decide) 4 (.int .i64 ch.f3)) ((HS5.out.set 3 (.int .i64 ch.f4)).set 4 (.int .i64 ch.f3)).var (by decide) 5 (.slice Av ch.f5.length cv)); have HT := Aside0.mk (show turnC ch = ⟨ch.f0, ch.f1, (-1), ch.f4, ch.f3, ch.f5⟩ by unfold turnC turnF; simp [f1, f2]); rw [HT.out] at HSN; obtain ⟨W6, hW6⟩ : ∃ W6, W6 = ((w5.setCell ⟨b5, 3, none⟩ (.int .i64 ch.f4)).setCell ⟨b5, 4, none⟩ (.int .i64 ch.f3)).setCell ⟨b5, 5, none⟩ (.slice Av ch.f5.length cv) := ⟨_, rfl⟩; rw [← hW6] at HS6 HK6 HR6 ⊢; clear hW6 HS5 HK5 HR5 HT hc0 hc1 hc2 hc3 hc4 hc5 hf3 hf4 hf5; have HMP := Aside0.mk (M_ne (k61_mkM W6 w.heap.size (fun _ => True) (⟨ch.f0, ch.f1, (-1), ch.f4, ch.f3, ch.f5⟩ : S61) HR6.out) HS6.out.row); have HEND := Aside0.mk (turn_end (t := ⟨ch.f0, ch.f1, (-1), ch.f4, ch.f3, ch.f5⟩) [.int .i64 ch.f0, .int .i64 ch.f1, .int .i64 (-1), .int .i64 ch.f4, .int .i64 ch.f3, .slice Av ch.f5.length cv] HS6.out HK6.out); obtain ⟨A2, c2, ev⟩ := Kd.R_slice HS6.out.row
      obtain ⟨nv, hnv⟩ : ∃ nv, nv = ys.length := ⟨_, rfl⟩; rw [← hnv] at ev; subst ev; clear hnv; have hc0 := cell_of_row _ _ 0 _ 61 (0, 0) HS6.out.var; have hc1 := cell_of_row _ _ 1 _ 61 (0, 0) HS6.out.var; have hc2 := cell_of_row _ _ 2 _ 61 (0, 0) HS6.out.var; have hc3 := cell_of_row _ _ 3 _ 61 (0, 0) HS6.out.var; have hc4 := cell_of_row _ _ 4 _ 61 (0, 0) HS6.out.var; have hc5 := cell_of_row _ _ 5 _ 61 (0, 0) HS6.out.var; have hcb := cell_of_row _ _ 0 _ 30 (0, 0) HS6.out.box; have hu61 := Try.underlying61
      gi_wp2_with ((gi_at_builtin; refine R_append_in k61 (W := W6) w.heap.size rfl (.tmp 28) (.tmp 30) 30 61 (.agg #[(.int .i64 0), (.int .i64 0), (.int .i64 0), (.int .i64 0), (.int .i64 0), (.slice none 0 0)]) 64 rfl Try.underlying30 info61 rfl (by decide) (by omega) (.slice A2 nv c2) ys (⟨ch.f0, ch.f1, (-1), ch.f4, ch.f3, ch.f5⟩ : S61) [.int .i64 ch.f0, .int .i64 ch.f1, .int .i64 (-1), .int .i64 ch.f4, .int .i64 ch.f3, .slice Av ch.f5.length cv] (fun _ => True) (fun k_ => True ∧ some k_ ≠ (.slice A2 nv c2 : Value).ownBlock) rfl rfl HMP.out (fun _ hk => hk) (fun _ _ => trivial) HS6.out.row HS6.out.bel.size HLX.out ?_; intro v1 w1 hr1 hg1 hv1; obtain ⟨A1, c1', e1⟩ := hv1; obtain ⟨n1, hn1⟩ : ∃ n1, n1 = ys.length + 1 := ⟨_, rfl⟩; rw [← hn1] at e1; subst e1; clear hn1; have HE := HEND.out _ w1 hr1 hg1; obtain ⟨hbx1, hE2⟩ := HE; have HE2 := Aside0.mk hE2; have hcb1 := cell_of_row _ _ 0 _ 30 (0, 0) hbx1; have hfb1 : w1.frozen? ⟨w.heap.size, 0, none⟩ = false := (by simp [World.frozen?, hbx1]); clear hbx1 hE2 hr1 hg1))
      obtain ⟨hk9, v9, q1, q2, q3, q4⟩ := HE2.out; exact ⟨hk9, v9, q1, by rw [HSN.out]; exact q2, q3, q4⟩
    have g1 : (ch.f2 == -1) = false := beq_eq_false_iff_ne.2 f1; have g2 : (ch.f2 == -2) = false := beq_eq_false_iff_ne.2 f2
    gi_wp2
    obtain ⟨WX, hWX⟩ : ∃ WX, WX = W := ⟨_, rfl⟩; have HS1 := Aside0.mk (show TurnS w A c xs b5 v2 ys #[.int .i64 ch.f0, .int .i64 ch.f1, .int .i64 ch.f2, .int .i64 ch.f3, .int .i64 ch.f4, .slice A5 ch.f5.length c5] WX from by rw [hWX]; exact HS0.out); have HK1 := Aside0.mk (show KeepBody w.heap.size [30, 61] W WX from by rw [hWX]; exact KeepBody.refl _ _ _); rw [show Code.wpIn (Fence.wide.inRound l) 3 Try.prog = Code.wpIn (Fence.wide.inRound l) 3 Try.prog from rfl]; clear hc0 hc1 hc2 hc3 hc4 hc5 hf2; rw [← hWX]; have HS4 : Aside0 (TurnS w A c xs b5 v2 ys #[.int .i64 ch.f0, .int .i64 ch.f1, .int .i64 ch.f2, .int .i64 ch.f3, .int .i64 ch.f4, .slice A5 ch.f5.length c5] WX.drew) := ⟨HS1.out.below (below_drew (Below.refl _ _))⟩; have HK4 : Aside0 (KeepBody w.heap.size [30, 61] W WX.drew) := ⟨HK1.out.trans (KeepBody.grown (grown_of_below (below_drew (Below.refl _ _)) none) (fun r e => by cases e))⟩; have hc3 : WX.drew.cell? ⟨b5, 3, none⟩ = some (.int .i64 ch.f3) := cell_of_row _ _ 3 _ 61 (0, 0) HS4.out.var; have hc4 : WX.drew.cell? ⟨b5, 4, none⟩ = some (.int .i64 ch.f4) := cell_of_row _ _ 4 _ 61 (0, 0) HS4.out.var; have hc5 : WX.drew.cell? ⟨b5, 5, none⟩ = some (.slice A5 ch.f5.length c5) := cell_of_row _ _ 5 _ 61 (0, 0) HS4.out.var; clear HS1 HK1; refine Iter.startIn_ (k := 13) (S := fun w' => w'.cell? ⟨b5, 3, none⟩ = some (.int .i64 ch.f3) ∧ w'.cell? ⟨b5, 4, none⟩ = some (.int .i64 ch.f4) ∧ w'.cell? ⟨b5, 5, none⟩ = some (.slice A5 ch.f5.length c5)) (ds := [8, 10, 12]) #[O_,O_,O_,O_,O_,O_,O_,O_,O_,O_,O_,O_,O_] (by kernel_rfl) (fun h => by obtain ⟨_, _, h⟩ := h; exact h) (by kernel_rfl) rfl rfl ⟨hc3, hc4, hc5⟩ (fun hHeld => ?_); generalize WX.drew = w4 at HS4 HK4 hHeld hc3 hc4 hc5 ⊢; refine pure_ (i := 0) (N := some 18) (v := ?_) (a' := ?_) #[I_,O_,O_,O_,O_,O_,O_,O_,O_,O_,O_,O_,O_] rfl rfl (by kernel_rfl) (fun _ _ _ h => h) (Or.inl ⟨by rfl, ?_⟩) ?_ ?_; rotate_left; (· intro w'; go_simp; with_reducible rfl); rotate_left; (· simp only [Act.put, sA_, sB_, sC_, i64_w, i32_w]; rfl); refine pure_ (i := 2) (N := some 20) (v := ?_) (a' := ?_) #[I_,O_,I_,O_,O_,O_,O_,O_,O_,O_,O_,O_,O_] rfl rfl (by kernel_rfl) (fun _ _ _ h => h) (Or.inl ⟨by rfl, ?_⟩) ?_ ?_; rotate_left; (· intro w'; go_simp; with_reducible rfl); rotate_left; (· simp only [Act.put, sA_, sB_, sC_, i64_w, i32_w]; rfl); refine pure_ (i := 4) (N := some 22) (v := ?_) (a' := ?_) #[I_,O_,I_,O_,I_,O_,O_,O_,O_,O_,O_,O_,O_] rfl rfl (by kernel_rfl) (fun _ _ _ h => h) (Or.inl ⟨by rfl, ?_⟩) ?_ ?_; rotate_left; (· intro w'; go_simp; with_reducible rfl); rotate_left; (· simp only [Act.put, sA_, sB_, sC_, i64_w, i32_w]; rfl); refine take_ (i := 1) (N := some 19) (v := ?_) (a' := ?_) #[I_,I_,I_,O_,I_,O_,O_,O_,O_,O_,O_,O_,O_] rfl rfl (by kernel_rfl) (fun _ _ _ h => h) (Or.inl ⟨by rfl, ?_⟩) hHeld ?_ ?_
    rotate_left; (· rintro w' ⟨s0, s1, s2⟩; go_simp; with_reducible rfl); rotate_left; (· simp only [Act.put, sA_, sB_, sC_, i64_w, i32_w]; rfl); refine take_ (i := 3) (N := some 21) (v := ?_) (a' := ?_) #[I_,I_,I_,I_,I_,O_,O_,O_,O_,O_,O_,O_,O_] rfl rfl (by kernel_rfl) (fun _ _ _ h => h) (Or.inl ⟨by rfl, ?_⟩) hHeld ?_ ?_; rotate_left; (· rintro w' ⟨s0, s1, s2⟩; go_simp; with_reducible rfl); rotate_left; (· simp only [Act.put, sA_, sB_, sC_, i64_w, i32_w]; rfl); refine take_ (i := 5) (N := some 23) (v := ?_) (a' := ?_) #[I_,I_,I_,I_,I_,I_,O_,O_,O_,O_,O_,O_,O_] rfl rfl (by kernel_rfl) (fun _ _ _ h => h) (Or.inl ⟨by rfl, ?_⟩) hHeld ?_ ?_; rotate_left; (· rintro w' ⟨s0, s1, s2⟩; go_simp; with_reducible rfl); rotate_left; (· simp only [Act.put, sA_, sB_, sC_, i64_w, i32_w]; rfl); refine pure_ (i := 7) (N := some 25) (v := ?_) (a' := ?_) #[I_,I_,I_,I_,I_,I_,O_,I_,O_,O_,O_,O_,O_] rfl rfl (by kernel_rfl) (fun _ _ _ h => h) (Or.inl ⟨by rfl, ?_⟩) ?_ ?_; rotate_left; (· intro w'; go_simp; with_reducible rfl); rotate_left; (· simp only [Act.put, sA_, sB_, sC_, i64_w, i32_w]; rfl); refine one_ (i := 6) (N := some 24) #[I_,I_,I_,I_,I_,I_,I_,I_,O_,O_,O_,O_,O_] rfl rfl (by kernel_rfl) (by decide) (fun K hK => ?_); refine goes_ Try.func43 (by kernel_rfl) rfl #[.slice A5 ch.f5.length c5] (by rfl) rfl rfl (by simp only [List.map_toArray, List.map_cons, List.map_nil]; rfl) ?_
    with_reducible refine (slices_Clone_int_int.calls A5 c5 ch.f5 ch.f5 w4 (Kd.C_below HI5.out HS4.out.bel) hl5 HCLN.out).mono ?_
    rintro e w5 ⟨vc, rfl, hR, hB2⟩; refine ⟨_, rfl, ?_⟩; obtain ⟨Av, cv, rfl⟩ := Kd.R_slice hR; have HS5 := Aside0.mk (HS4.out.below hB2); have HR5 := Aside0.mk (Kd.R_lower hR HS4.out.bel.size); have HK5 := Aside0.mk (HK4.out.trans (KeepBody.grown (grown_of_below hB2 none) (fun r e => by cases e))); have hc0 := cell_of_row _ _ 0 _ 61 (0, 0) HS5.out.var; have hc1 := cell_of_row _ _ 1 _ 61 (0, 0) HS5.out.var; have hc2 := cell_of_row _ _ 2 _ 61 (0, 0) HS5.out.var; have hc3 := cell_of_row _ _ 3 _ 61 (0, 0) HS5.out.var; have hc4 := cell_of_row _ _ 4 _ 61 (0, 0) HS5.out.var; have hc5 := cell_of_row _ _ 5 _ 61 (0, 0) HS5.out.var
    have hf3 : w5.frozen? ⟨b5, 3, none⟩ = false := by simp [World.frozen?, HS5.out.var]
    have hf4 : w5.frozen? ⟨b5, 4, none⟩ = false := by simp [World.frozen?, HS5.out.var]
    have hf5 : w5.frozen? ⟨b5, 5, none⟩ = false := by simp [World.frozen?, HS5.out.var]
    clear hR hB2; refine hK.out _ _ ⟨hc3, hc4, hc5⟩ (fun hHeld => ?_); clear hK K; refine norm_ (a' := ?_) ?_ ?_; rotate_left
    · show Act.put _ (some 24) _ = _
      simp only [Act.put, sA_, sB_, sC_, i64_w, i32_w]; rfl
    refine last_ (i := 8) (N := none) #[I_,I_,I_,I_,I_,I_,I_,I_,I_,O_,O_,O_,O_] rfl rfl (by kernel_rfl) (by decide) (fun K hK => ?_); refine skip_ (w1 := ?_) (by rfl) rfl ?_ ?_; rotate_left; (· go_simp; rfl); refine hK.out _ _ ?_; clear hK K; refine pure_ (i := 9) (N := some 26) (v := ?_) (a' := ?_) #[I_,I_,I_,I_,I_,I_,I_,I_,I_,I_,O_,O_,O_] rfl rfl (by kernel_rfl) (fun _ _ _ h => h) (Or.inl ⟨by rfl, ?_⟩) ?_ ?_; rotate_left; (· intro w'; go_simp; with_reducible rfl); rotate_left; (· simp only [Act.put, sA_, sB_, sC_, i64_w, i32_w]; rfl); refine last_ (i := 10) (N := none) #[I_,I_,I_,I_,I_,I_,I_,I_,I_,I_,I_,O_,O_] rfl rfl (by kernel_rfl) (by decide) (fun K hK => ?_); refine skip_ (w1 := ?_) (by rfl) rfl ?_ ?_; rotate_left; (· go_simp; rfl); refine hK.out _ _ ?_; clear hK K; refine pure_ (i := 11) (N := some 27) (v := ?_) (a' := ?_) #[I_,I_,I_,I_,I_,I_,I_,I_,I_,I_,I_,I_,O_] rfl rfl (by kernel_rfl) (fun _ _ _ h => h) (Or.inl ⟨by rfl, ?_⟩) ?_ ?_; rotate_left; (· intro w'; go_simp; with_reducible rfl); rotate_left; (· simp only [Act.put, sA_, sB_, sC_, i64_w, i32_w]; rfl); refine last_ (i := 12) (N := none) #[I_,I_,I_,I_,I_,I_,I_,I_,I_,I_,I_,I_,I_] rfl rfl (by kernel_rfl) (by decide) (fun K hK => ?_); refine skip_ (w1 := ?_) (by rfl) rfl ?_ ?_; rotate_left; (· go_simp; rfl); refine hK.out _ _ ?_; clear hK K; refine done_ (by kernel_rfl) ?_; have HS6 := Aside0.mk (((HS5.out.set 3 (.int .i64 ch.f4)).set 4 (.int .i64 ch.f3)).set 5 (.slice Av ch.f5.length cv)); have HK6 := Aside0.mk (((HK5.out.trans (HS5.out.keep 3 (.int .i64 ch.f4))).trans ((HS5.out.set 3 (.int .i64 ch.f4)).keep 4 (.int .i64 ch.f3))).trans (((HS5.out.set 3 (.int .i64 ch.f4)).set 4 (.int .i64 ch.f3)).keep 5 (.slice Av ch.f5.length cv))); have HR6 := Aside0.mk (Kd.R_set (Kd.R_set (Kd.R_set HR5.out HS5.out.var (by decide) 3 (.int .i64 ch.f4)) (HS5.out.set 3 (.int .i64 ch.f4)).var (by decide) 4 (.int .i64 ch.f3)) ((HS5.out.set 3 (.int .i64 ch.f4)).set 4 (.int .i64 ch.f3)).var (by decide) 5 (.slice Av ch.f5.length cv)); have HT := Aside0.mk (show turnC ch = ⟨ch.f0, ch.f1, ch.f2, ch.f4, ch.f3, ch.f5⟩ by unfold turnC turnF; simp [f1, f2]); rw [HT.out] at HSN; obtain ⟨W6, hW6⟩ : ∃ W6, W6 = ((w5.setCell ⟨b5, 3, none⟩ (.int .i64 ch.f4)).setCell ⟨b5, 4, none⟩ (.int .i64 ch.f3)).setCell ⟨b5, 5, none⟩ (.slice Av ch.f5.length cv) := ⟨_, rfl⟩; rw [← hW6] at HS6 HK6 HR6 ⊢; clear hW6 HS5 HK5 HR5 HT hc0 hc1 hc2 hc3 hc4 hc5 hf3 hf4 hf5; have HMP := Aside0.mk (M_ne (k61_mkM W6 w.heap.size (fun _ => True) (⟨ch.f0, ch.f1, ch.f2, ch.f4, ch.f3, ch.f5⟩ : S61) HR6.out) HS6.out.row); have HEND := Aside0.mk (turn_end (t := ⟨ch.f0, ch.f1, ch.f2, ch.f4, ch.f3, ch.f5⟩) [.int .i64 ch.f0, .int .i64 ch.f1, .int .i64 ch.f2, .int .i64 ch.f4, .int .i64 ch.f3, .slice Av ch.f5.length cv] HS6.out HK6.out); obtain ⟨A2, c2, ev⟩ := Kd.R_slice HS6.out.row
    obtain ⟨nv, hnv⟩ : ∃ nv, nv = ys.length := ⟨_, rfl⟩; rw [← hnv] at ev; subst ev; clear hnv; have hc0 := cell_of_row _ _ 0 _ 61 (0, 0) HS6.out.var; have hc1 := cell_of_row _ _ 1 _ 61 (0, 0) HS6.out.var; have hc2 := cell_of_row _ _ 2 _ 61 (0, 0) HS6.out.var; have hc3 := cell_of_row _ _ 3 _ 61 (0, 0) HS6.out.var; have hc4 := cell_of_row _ _ 4 _ 61 (0, 0) HS6.out.var; have hc5 := cell_of_row _ _ 5 _ 61 (0, 0) HS6.out.var; have hcb := cell_of_row _ _ 0 _ 30 (0, 0) HS6.out.box; have hu61 := Try.underlying61
    gi_wp2_with ((gi_at_builtin; refine R_append_in k61 (W := W6) w.heap.size rfl (.tmp 28) (.tmp 30) 30 61 (.agg #[(.int .i64 0), (.int .i64 0), (.int .i64 0), (.int .i64 0), (.int .i64 0), (.slice none 0 0)]) 64 rfl Try.underlying30 info61 rfl (by decide) (by omega) (.slice A2 nv c2) ys (⟨ch.f0, ch.f1, ch.f2, ch.f4, ch.f3, ch.f5⟩ : S61) [.int .i64 ch.f0, .int .i64 ch.f1, .int .i64 ch.f2, .int .i64 ch.f4, .int .i64 ch.f3, .slice Av ch.f5.length cv] (fun _ => True) (fun k_ => True ∧ some k_ ≠ (.slice A2 nv c2 : Value).ownBlock) rfl rfl HMP.out (fun _ hk => hk) (fun _ _ => trivial) HS6.out.row HS6.out.bel.size HLX.out ?_; intro v1 w1 hr1 hg1 hv1; obtain ⟨A1, c1', e1⟩ := hv1; obtain ⟨n1, hn1⟩ : ∃ n1, n1 = ys.length + 1 := ⟨_, rfl⟩; rw [← hn1] at e1; subst e1; clear hn1; have HE := HEND.out _ w1 hr1 hg1; obtain ⟨hbx1, hE2⟩ := HE; have HE2 := Aside0.mk hE2; have hcb1 := cell_of_row _ _ 0 _ 30 (0, 0) hbx1; have hfb1 : w1.frozen? ⟨w.heap.size, 0, none⟩ = false := (by simp [World.frozen?, hbx1]); clear hbx1 hE2 hr1 hg1))
    obtain ⟨hk9, v9, q1, q2, q3, q4⟩ := HE2.out; exact ⟨hk9, v9, q1, by rw [HSN.out]; exact q2, q3, q4⟩
  case done =>
    rintro D ys W hD hys ⟨v', hb, hr, hB, hl⟩ hDD
    have e : ys.map (fun x => turnC x.2.1) = turnR xs := by
      unfold turnR; rw [← hys, List.map_map]; rfl
    rw [e] at hr; have hcb := cell_of_row _ _ 0 _ 30 (0, 0) hb; have HM := Aside0.mk (show Marked w.heap.size [D] W from (Marked.nil _ _).cons (by omega) hDD (by simp)); have HRR := Aside0.mk hr; have HBB := Aside0.mk hB; clear hb hr hB hl hDD hys e; go_wp2; exact turn_leave w _ _ [D] _ v' rfl HM.out HRR.out HBB.out
def diff_Turn.f (l0 : List S61) : Option (List S61) := if l0.length ≤ 1000000 ∧ ∀ x ∈ l0, x.f5.length ≤ 1000000 then some (turnR l0) else none
theorem diff_Turn.calls (A0 : Option Addr) (c0 : Nat) (l0 : List S61) (r : List S61) (w : World) (hr0 : Kd.C k61 w A0 l0.length l0) (hc0 : l0.length ≤ c0) (h : diff_Turn.f l0 = some r) :
    Calls Try.prog 20 #[.slice A0 l0.length c0] w fun e w' => ∃ v0_ : Value, e = .returned (v0_) ∧ Kd.N k61 61 w' w.heap.size (fun k_ => w.heap.size ≤ k_) v0_ r ∧ Below w.heap.size w w' := by
  unfold diff_Turn.f at h
  split at h
  · next hs =>
    obtain rfl := Option.some.inj h; refine (turn_in A0 c0 l0 w hr0 hc0 hs.1 hs.2).mono ?_; rintro e w' ⟨v, rfl, hv, hb⟩; exact ⟨v, rfl, Kd.N_mono (Kd.R_N (Kd.R_bound hv)) (fun k hk => hk.2.1), hb⟩
  · cases h
end Go.Proofs.Ytcgpemefmakjiaa.PX
namespace Go.Proofs.Ytcgpemefmakjiaa.PX
open Go.RowKit Go.Proofs.YtcgpemefmakjiaaW.PrintWords Go.Proofs.YtcgpemefmakjiaaW.PrintLast Go.Proofs.YtcgpemefmakjiaaW.PrintMore
attribute [local go_sem] max2_int min2_int max_two min_two max_three min_three max_four min_four   -- for this text's walks alone
set_option linter.unusedVariables false
set_option linter.unusedSimpArgs false
def dioramalaw36_DiffLeads.j0 : Nat → List (List (List Int)) → List (List (List Int)) → List (S61) → List (S61) → List (S61) → List (List (List Int)) → List (List (List Int)) → Bool → Option (Bool)
  | 0, _, _, _, _, _, _, _, _ => none
  | k + 1, x6, x7, x8, x10, x12, x14, x16, x74 => if x74 = true then (some false) else (if (x8.length : Int) = (x10.length : Int) then (if (x12.length : Int) = 0 then ((dioramaref36_SameWorld.f k x14 x7).bind fun t299 => (if t299 = true then ((dioramaref36_SameWorld.f k x16 x6).bind fun t300 => (if t300 = true then ((dioramalaw36_lives.f).bind fun t301 => (some t301)) else (some false))) else (some false))) else (some false)) else (some false))
def dioramalaw36_DiffLeads.f (k : Nat) (l0 : List Int) (l1 : List Int) : Option (Bool) := (dioramaref36_Shape.f k l0).bind fun t267 => ((dioramaref36_World.f k t267 l0).bind fun t270 => ((dioramaref36_World.f k t267 l1).bind fun t273 => ((diff_Diff.f t270 t273).bind fun bt276 => ((diff_Diff.f t273 t270).bind fun bt280 => ((diff_Diff.f t270 t270).bind fun bt284 => ((diff_Apply.f t270 bt276.1).bind fun bt288 => ((diff_Turn.f bt276.1).bind fun t292 => ((diff_Apply.f t273 t292).bind fun bt295 => (if bt276.2 = 0 then (if bt280.2 = 0 then (if bt284.2 = 0 then (if bt288.2 = 0 then (dioramalaw36_DiffLeads.j0 k t270 t273 bt276.1 bt280.1 bt284.1 bt288.1 bt295.1 (bt295.2 != 0)) else (dioramalaw36_DiffLeads.j0 k t270 t273 bt276.1 bt280.1 bt284.1 bt288.1 bt295.1 true)) else (dioramalaw36_DiffLeads.j0 k t270 t273 bt276.1 bt280.1 bt284.1 bt288.1 bt295.1 true)) else (dioramalaw36_DiffLeads.j0 k t270 t273 bt276.1 bt280.1 bt284.1 bt288.1 bt295.1 true)) else (dioramalaw36_DiffLeads.j0 k t270 t273 bt276.1 bt280.1 bt284.1 bt288.1 bt295.1 true))))))))))
set_option maxHeartbeats 8000000 in
set_option maxRecDepth 100000 in
theorem dioramalaw36_DiffLeads.calls (k : Nat) (A0 : Option Addr) (c0 : Nat) (l0 : List Int) (A1 : Option Addr) (c1 : Nat) (l1 : List Int) (r : Bool) (w : World) (hr0 : Kd.C (Kd.int .i64) w A0 l0.length l0) (hc0 : l0.length ≤ c0) (hr1 : Kd.C (Kd.int .i64) w A1 l1.length l1) (hc1 : l1.length ≤ c1) (h : dioramalaw36_DiffLeads.f k l0 l1 = some r) :
    Calls Try.prog 4 #[.slice A0 l0.length c0, .slice A1 l1.length c1] w fun e w' => e = .returned (.bool r) ∧ Below w.heap.size w w' := by
  have HR0 := Aside0.mk hr0; have HC0 := Aside0.mk hc0; clear hr0 hc0; have HR1 := Aside0.mk hr1; have HC1 := Aside0.mk hc1; clear hr1 hc1; have HB := Aside0.mk (Below.refl w.heap.size w); have H : ((dioramaref36_Shape.f k l0).bind fun t267 => ((dioramaref36_World.f k t267 l0).bind fun t270 => ((dioramaref36_World.f k t267 l1).bind fun t273 => ((diff_Diff.f t270 t273).bind fun bt276 => ((diff_Diff.f t273 t270).bind fun bt280 => ((diff_Diff.f t270 t270).bind fun bt284 => ((diff_Apply.f t270 bt276.1).bind fun bt288 => ((diff_Turn.f bt276.1).bind fun t292 => ((diff_Apply.f t273 t292).bind fun bt295 => (if bt276.2 = 0 then (if bt280.2 = 0 then (if bt284.2 = 0 then (if bt288.2 = 0 then (dioramalaw36_DiffLeads.j0 k t270 t273 bt276.1 bt280.1 bt284.1 bt288.1 bt295.1 (bt295.2 != 0)) else (dioramalaw36_DiffLeads.j0 k t270 t273 bt276.1 bt280.1 bt284.1 bt288.1 bt295.1 true)) else (dioramalaw36_DiffLeads.j0 k t270 t273 bt276.1 bt280.1 bt284.1 bt288.1 bt295.1 true)) else (dioramalaw36_DiffLeads.j0 k t270 t273 bt276.1 bt280.1 bt284.1 bt288.1 bt295.1 true)) else (dioramalaw36_DiffLeads.j0 k t270 t273 bt276.1 bt280.1 bt284.1 bt288.1 bt295.1 true))))))))))) = some r := h; clear h; replace H := Option.bind_eq_some_iff.mp H; obtain ⟨t267, A30, H⟩ := H; replace H : ((dioramaref36_World.f k t267 l0).bind fun t270 => ((dioramaref36_World.f k t267 l1).bind fun t273 => ((diff_Diff.f t270 t273).bind fun bt276 => ((diff_Diff.f t273 t270).bind fun bt280 => ((diff_Diff.f t270 t270).bind fun bt284 => ((diff_Apply.f t270 bt276.1).bind fun bt288 => ((diff_Turn.f bt276.1).bind fun t292 => ((diff_Apply.f t273 t292).bind fun bt295 => (if bt276.2 = 0 then (if bt280.2 = 0 then (if bt284.2 = 0 then (if bt288.2 = 0 then (dioramalaw36_DiffLeads.j0 k t270 t273 bt276.1 bt280.1 bt284.1 bt288.1 bt295.1 (bt295.2 != 0)) else (dioramalaw36_DiffLeads.j0 k t270 t273 bt276.1 bt280.1 bt284.1 bt288.1 bt295.1 true)) else (dioramalaw36_DiffLeads.j0 k t270 t273 bt276.1 bt280.1 bt284.1 bt288.1 bt295.1 true)) else (dioramalaw36_DiffLeads.j0 k t270 t273 bt276.1 bt280.1 bt284.1 bt288.1 bt295.1 true)) else (dioramalaw36_DiffLeads.j0 k t270 t273 bt276.1 bt280.1 bt284.1 bt288.1 bt295.1 true)))))))))) = some r := H; have A3 := Aside0.mk A30; clear A30; replace H := Option.bind_eq_some_iff.mp H; obtain ⟨t270, A40, H⟩ := H; replace H : ((dioramaref36_World.f k t267 l1).bind fun t273 => ((diff_Diff.f t270 t273).bind fun bt276 => ((diff_Diff.f t273 t270).bind fun bt280 => ((diff_Diff.f t270 t270).bind fun bt284 => ((diff_Apply.f t270 bt276.1).bind fun bt288 => ((diff_Turn.f bt276.1).bind fun t292 => ((diff_Apply.f t273 t292).bind fun bt295 => (if bt276.2 = 0 then (if bt280.2 = 0 then (if bt284.2 = 0 then (if bt288.2 = 0 then (dioramalaw36_DiffLeads.j0 k t270 t273 bt276.1 bt280.1 bt284.1 bt288.1 bt295.1 (bt295.2 != 0)) else (dioramalaw36_DiffLeads.j0 k t270 t273 bt276.1 bt280.1 bt284.1 bt288.1 bt295.1 true)) else (dioramalaw36_DiffLeads.j0 k t270 t273 bt276.1 bt280.1 bt284.1 bt288.1 bt295.1 true)) else (dioramalaw36_DiffLeads.j0 k t270 t273 bt276.1 bt280.1 bt284.1 bt288.1 bt295.1 true)) else (dioramalaw36_DiffLeads.j0 k t270 t273 bt276.1 bt280.1 bt284.1 bt288.1 bt295.1 true))))))))) = some r := H
  have A4 := Aside0.mk A40; clear A40; replace H := Option.bind_eq_some_iff.mp H; obtain ⟨t273, A50, H⟩ := H; replace H : ((diff_Diff.f t270 t273).bind fun bt276 => ((diff_Diff.f t273 t270).bind fun bt280 => ((diff_Diff.f t270 t270).bind fun bt284 => ((diff_Apply.f t270 bt276.1).bind fun bt288 => ((diff_Turn.f bt276.1).bind fun t292 => ((diff_Apply.f t273 t292).bind fun bt295 => (if bt276.2 = 0 then (if bt280.2 = 0 then (if bt284.2 = 0 then (if bt288.2 = 0 then (dioramalaw36_DiffLeads.j0 k t270 t273 bt276.1 bt280.1 bt284.1 bt288.1 bt295.1 (bt295.2 != 0)) else (dioramalaw36_DiffLeads.j0 k t270 t273 bt276.1 bt280.1 bt284.1 bt288.1 bt295.1 true)) else (dioramalaw36_DiffLeads.j0 k t270 t273 bt276.1 bt280.1 bt284.1 bt288.1 bt295.1 true)) else (dioramalaw36_DiffLeads.j0 k t270 t273 bt276.1 bt280.1 bt284.1 bt288.1 bt295.1 true)) else (dioramalaw36_DiffLeads.j0 k t270 t273 bt276.1 bt280.1 bt284.1 bt288.1 bt295.1 true)))))))) = some r := H; have A5 := Aside0.mk A50; clear A50; replace H := Option.bind_eq_some_iff.mp H; obtain ⟨⟨t276, t279⟩, A60, H⟩ := H; replace H : ((diff_Diff.f t273 t270).bind fun bt280 => ((diff_Diff.f t270 t270).bind fun bt284 => ((diff_Apply.f t270 t276).bind fun bt288 => ((diff_Turn.f t276).bind fun t292 => ((diff_Apply.f t273 t292).bind fun bt295 => (if t279 = 0 then (if bt280.2 = 0 then (if bt284.2 = 0 then (if bt288.2 = 0 then (dioramalaw36_DiffLeads.j0 k t270 t273 t276 bt280.1 bt284.1 bt288.1 bt295.1 (bt295.2 != 0)) else (dioramalaw36_DiffLeads.j0 k t270 t273 t276 bt280.1 bt284.1 bt288.1 bt295.1 true)) else (dioramalaw36_DiffLeads.j0 k t270 t273 t276 bt280.1 bt284.1 bt288.1 bt295.1 true)) else (dioramalaw36_DiffLeads.j0 k t270 t273 t276 bt280.1 bt284.1 bt288.1 bt295.1 true)) else (dioramalaw36_DiffLeads.j0 k t270 t273 t276 bt280.1 bt284.1 bt288.1 bt295.1 true))))))) = some r := H; have A6 := Aside0.mk A60; clear A60; replace H := Option.bind_eq_some_iff.mp H; obtain ⟨⟨t280, t283⟩, A70, H⟩ := H; replace H : ((diff_Diff.f t270 t270).bind fun bt284 => ((diff_Apply.f t270 t276).bind fun bt288 => ((diff_Turn.f t276).bind fun t292 => ((diff_Apply.f t273 t292).bind fun bt295 => (if t279 = 0 then (if t283 = 0 then (if bt284.2 = 0 then (if bt288.2 = 0 then (dioramalaw36_DiffLeads.j0 k t270 t273 t276 t280 bt284.1 bt288.1 bt295.1 (bt295.2 != 0)) else (dioramalaw36_DiffLeads.j0 k t270 t273 t276 t280 bt284.1 bt288.1 bt295.1 true)) else (dioramalaw36_DiffLeads.j0 k t270 t273 t276 t280 bt284.1 bt288.1 bt295.1 true)) else (dioramalaw36_DiffLeads.j0 k t270 t273 t276 t280 bt284.1 bt288.1 bt295.1 true)) else (dioramalaw36_DiffLeads.j0 k t270 t273 t276 t280 bt284.1 bt288.1 bt295.1 true)))))) = some r := H; have A7 := Aside0.mk A70; clear A70; replace H := Option.bind_eq_some_iff.mp H; obtain ⟨⟨t284, t287⟩, A80, H⟩ := H; replace H : ((diff_Apply.f t270 t276).bind fun bt288 => ((diff_Turn.f t276).bind fun t292 => ((diff_Apply.f t273 t292).bind fun bt295 => (if t279 = 0 then (if t283 = 0 then (if t287 = 0 then (if bt288.2 = 0 then (dioramalaw36_DiffLeads.j0 k t270 t273 t276 t280 t284 bt288.1 bt295.1 (bt295.2 != 0)) else (dioramalaw36_DiffLeads.j0 k t270 t273 t276 t280 t284 bt288.1 bt295.1 true)) else (dioramalaw36_DiffLeads.j0 k t270 t273 t276 t280 t284 bt288.1 bt295.1 true)) else (dioramalaw36_DiffLeads.j0 k t270 t273 t276 t280 t284 bt288.1 bt295.1 true)) else (dioramalaw36_DiffLeads.j0 k t270 t273 t276 t280 t284 bt288.1 bt295.1 true))))) = some r := H
  have A8 := Aside0.mk A80; clear A80; replace H := Option.bind_eq_some_iff.mp H; obtain ⟨⟨t288, t289⟩, A90, H⟩ := H; replace H : ((diff_Turn.f t276).bind fun t292 => ((diff_Apply.f t273 t292).bind fun bt295 => (if t279 = 0 then (if t283 = 0 then (if t287 = 0 then (if t289 = 0 then (dioramalaw36_DiffLeads.j0 k t270 t273 t276 t280 t284 t288 bt295.1 (bt295.2 != 0)) else (dioramalaw36_DiffLeads.j0 k t270 t273 t276 t280 t284 t288 bt295.1 true)) else (dioramalaw36_DiffLeads.j0 k t270 t273 t276 t280 t284 t288 bt295.1 true)) else (dioramalaw36_DiffLeads.j0 k t270 t273 t276 t280 t284 t288 bt295.1 true)) else (dioramalaw36_DiffLeads.j0 k t270 t273 t276 t280 t284 t288 bt295.1 true)))) = some r := H; have A9 := Aside0.mk A90; clear A90; replace H := Option.bind_eq_some_iff.mp H; obtain ⟨t292, A100, H⟩ := H; replace H : ((diff_Apply.f t273 t292).bind fun bt295 => (if t279 = 0 then (if t283 = 0 then (if t287 = 0 then (if t289 = 0 then (dioramalaw36_DiffLeads.j0 k t270 t273 t276 t280 t284 t288 bt295.1 (bt295.2 != 0)) else (dioramalaw36_DiffLeads.j0 k t270 t273 t276 t280 t284 t288 bt295.1 true)) else (dioramalaw36_DiffLeads.j0 k t270 t273 t276 t280 t284 t288 bt295.1 true)) else (dioramalaw36_DiffLeads.j0 k t270 t273 t276 t280 t284 t288 bt295.1 true)) else (dioramalaw36_DiffLeads.j0 k t270 t273 t276 t280 t284 t288 bt295.1 true))) = some r := H; have A10 := Aside0.mk A100; clear A100; replace H := Option.bind_eq_some_iff.mp H; obtain ⟨⟨t295, t296⟩, A110, H⟩ := H; replace H : (if t279 = 0 then (if t283 = 0 then (if t287 = 0 then (if t289 = 0 then (dioramalaw36_DiffLeads.j0 k t270 t273 t276 t280 t284 t288 t295 (t296 != 0)) else (dioramalaw36_DiffLeads.j0 k t270 t273 t276 t280 t284 t288 t295 true)) else (dioramalaw36_DiffLeads.j0 k t270 t273 t276 t280 t284 t288 t295 true)) else (dioramalaw36_DiffLeads.j0 k t270 t273 t276 t280 t284 t288 t295 true)) else (dioramalaw36_DiffLeads.j0 k t270 t273 t276 t280 t284 t288 t295 true)) = some r := H; have A11 := Aside0.mk A110; clear A110; have HC12 := Aside0.mk H; clear H
  go_enter Try.func4, Try.ntmps4
  go_upto_region 9 with (first | ((with_reducible refine gate_callee (f := 10) rfl ?_); refine goesL_ (some 19) rfl rfl Try.func10 (by kernel_rfl) rfl #[.slice A0 l0.length c0] rfl (by (try simp only [List.map_toArray, List.map_cons, List.map_nil]); first | done | rfl | (simp only [List.length_drop, List.length_take]; rfl)) ?_; (with_reducible refine (dioramaref36_Shape.calls k _ _ l0 t267 _ ?side1 ?side2 A3.out).mono ?_); (case side1 => repeat (first | exact HR0.out | (with_reducible refine Kd.C_alloc ?_ _) | (with_reducible refine Kd.C_drewN ?_ _) | (with_reducible refine Kd.C_drew ?_))); (case side2 => exact HC0.out); rintro e w13 ⟨v268, rfl, ho0, hb⟩; refine ⟨_, rfl, ?_⟩; have n0_ := Aside0.mk (Kd.R_lower ho0 (below_size (by repeat (first | (with_reducible first | exact HB.out | apply below_alloc | apply pw_below_drewN | apply below_drew1) | exact HB.out)))); have n1_ := Aside0.mk (below_step (by repeat (first | (with_reducible first | exact HB.out | apply below_alloc | apply pw_below_drewN | apply below_drew1) | exact HB.out)) hb); clear HB; have HO269 := n0_; have HB := n1_; clear n0_ n1_; (try clear hb); (try clear hb2); (try clear hk); (try clear hi); (try clear ho0); obtain ⟨Ao14, co14, eo14⟩ := Kd.R_slice HO269.out; subst eo14) | ((with_reducible refine gate_callee (f := 11) rfl ?_); refine goesL_ (some 22) rfl rfl Try.func11 (by kernel_rfl) rfl #[.slice Ao14 t267.length co14, .slice A0 l0.length c0] rfl (by (try simp only [List.map_toArray, List.map_cons, List.map_nil]); first | done | rfl | (simp only [List.length_drop, List.length_take]; rfl)) ?_; (with_reducible refine (dioramaref36_World.calls k _ _ t267 _ _ l0 t270 _ ?side1 ?side2 ?side3 ?side4 A4.out).mono ?_); (case side1 => repeat (first | exact (Kd.R_reads' HO269.out).2.2 | (with_reducible refine Kd.C_alloc ?_ _) | (with_reducible refine Kd.C_drewN ?_ _) | (with_reducible refine Kd.C_drew ?_))); (case side2 => exact (Kd.R_reads' HO269.out).2.1); (case side3 => repeat (first | exact (Kd.C_below HR0.out HB.out) | (with_reducible refine Kd.C_alloc ?_ _) | (with_reducible refine Kd.C_drewN ?_ _) | (with_reducible refine Kd.C_drew ?_))); (case side4 => exact HC0.out); rintro e w15 ⟨v271, rfl, ho0, hb⟩; refine ⟨_, rfl, ?_⟩; have n0_ := Aside0.mk (Kd.R_below (by (with_reducible repeat (first | apply Kd.R_alloc | apply Kd.R_drewN | apply Kd.R_drew)); exact HO269.out) hb); have n1_ := Aside0.mk (Kd.N_lower (Kd.N_mono (ok' := fun k_ => some k_ ≠ (.slice Ao14 t267.length co14 : Value).ownBlock) (Kd.R_N (Kd.R_bound ho0)) (fun k_ hk_ => (Kd.fresh' (Kd.R_lt (by (with_reducible repeat (first | apply Kd.R_alloc | apply Kd.R_drewN | apply Kd.R_drew)); exact HO269.out)) k_ hk_.2.1))) (below_size (by repeat (first | (with_reducible first | exact HB.out | apply below_alloc | apply pw_below_drewN | apply below_drew1) | exact HB.out)))); have n2_ := Aside0.mk (below_step (by repeat (first | (with_reducible first | exact HB.out | apply below_alloc | apply pw_below_drewN | apply below_drew1) | exact HB.out)) hb); clear HO269; clear HB; have HO269 := n0_; have HO272 := n1_; have HB := n2_; clear n0_ n1_ n2_; (try clear hb); (try clear hb2); (try clear hk); (try clear hi); (try clear ho0)) | ((with_reducible refine gate_callee (f := 11) rfl ?_); refine goesL_ (some 25) rfl rfl Try.func11 (by kernel_rfl) rfl #[.slice Ao14 t267.length co14, .slice A1 l1.length c1] rfl (by (try simp only [List.map_toArray, List.map_cons, List.map_nil]); first | done | rfl | (simp only [List.length_drop, List.length_take]; rfl)) ?_; (with_reducible refine (dioramaref36_World.calls k _ _ t267 _ _ l1 t273 _ ?side1 ?side2 ?side3 ?side4 A5.out).mono ?_); (case side1 => repeat (first | exact (Kd.R_reads' HO269.out).2.2 | (with_reducible refine Kd.C_alloc ?_ _) | (with_reducible refine Kd.C_drewN ?_ _) | (with_reducible refine Kd.C_drew ?_))); (case side2 => exact (Kd.R_reads' HO269.out).2.1); (case side3 => repeat (first | exact (Kd.C_below HR1.out HB.out) | (with_reducible refine Kd.C_alloc ?_ _) | (with_reducible refine Kd.C_drewN ?_ _) | (with_reducible refine Kd.C_drew ?_))); (case side4 => exact HC1.out); rintro e w16 ⟨v274, rfl, ho0, hb⟩; refine ⟨_, rfl, ?_⟩; have n0_ := Aside0.mk (Kd.R_below (by (with_reducible repeat (first | apply Kd.R_alloc | apply Kd.R_drewN | apply Kd.R_drew)); exact HO269.out) hb); have n1_ := Aside0.mk (Kd.N_elder' (by (with_reducible repeat (first | apply Kd.N_alloc | apply Kd.N_drewN | apply Kd.N_drew)); exact HO272.out) (by first | exact Kd.N_base ho0 | exact Kd.R_base ho0) hb); have n2_ := Aside0.mk (Kd.N_lower (Kd.N_mono (ok' := fun k_ => some k_ ≠ (.slice Ao14 t267.length co14 : Value).ownBlock ∧ some k_ ≠ (v271 : Value).ownBlock) (Kd.R_N (Kd.R_bound ho0)) (fun k_ hk_ => ⟨(Kd.fresh' (Kd.R_lt (by (with_reducible repeat (first | apply Kd.R_alloc | apply Kd.R_drewN | apply Kd.R_drew)); exact HO269.out)) k_ hk_.2.1), (Kd.fresh' (Kd.N_lt (by (with_reducible repeat (first | apply Kd.N_alloc | apply Kd.N_drewN | apply Kd.N_drew)); exact HO272.out)) k_ hk_.2.1)⟩)) (below_size (by repeat (first | (with_reducible first | exact HB.out | apply below_alloc | apply pw_below_drewN | apply below_drew1) | exact HB.out)))); have n3_ := Aside0.mk (below_step (by repeat (first | (with_reducible first | exact HB.out | apply below_alloc | apply pw_below_drewN | apply below_drew1) | exact HB.out)) hb); clear HO269; clear HO272; clear HB; have HO269 := n0_; have HO272 := n1_; have HO275 := n2_; have HB := n3_; clear n0_ n1_ n2_ n3_; (try clear hb); (try clear hb2); (try clear hk); (try clear hi); (try clear ho0); obtain ⟨Ao17, co17, eo17⟩ := Kd.N_slice HO272.out; subst eo17; obtain ⟨Ao18, co18, eo18⟩ := Kd.N_slice HO275.out; subst eo18) | ((with_reducible refine gate_callee (f := 14) rfl ?_); refine goesL_ (some 29) rfl rfl Try.func14 (by kernel_rfl) rfl #[.slice Ao17 t270.length co17, .slice Ao18 t273.length co18] rfl (by (try simp only [List.map_toArray, List.map_cons, List.map_nil]); first | done | rfl | (simp only [List.length_drop, List.length_take]; rfl)) ?_; (with_reducible refine (diff_Diff.calls _ _ t270 _ _ t273 t276 t279 _ ?side1 ?side2 ?side3 ?side4 A6.out).mono ?_); (case side1 => repeat (first | exact (Kd.N_reads' HO272.out).2.2 | (with_reducible refine Kd.C_alloc ?_ _) | (with_reducible refine Kd.C_drewN ?_ _) | (with_reducible refine Kd.C_drew ?_))); (case side2 => exact (Kd.N_reads' HO272.out).2.1); (case side3 => repeat (first | exact (Kd.N_reads' HO275.out).2.2 | (with_reducible refine Kd.C_alloc ?_ _) | (with_reducible refine Kd.C_drewN ?_ _) | (with_reducible refine Kd.C_drew ?_))); (case side4 => exact (Kd.N_reads' HO275.out).2.1); rintro e w19 ⟨v277, rfl, ho0, hb⟩; refine ⟨_, rfl, ?_⟩; have n0_ := Aside0.mk (Kd.R_below (by (with_reducible repeat (first | apply Kd.R_alloc | apply Kd.R_drewN | apply Kd.R_drew)); exact HO269.out) hb); have n1_ := Aside0.mk (Kd.N_elder' (by (with_reducible repeat (first | apply Kd.N_alloc | apply Kd.N_drewN | apply Kd.N_drew)); exact HO272.out) (by first | exact Kd.N_base ho0 | exact Kd.R_base ho0) hb); have n2_ := Aside0.mk (Kd.N_elder' (by (with_reducible repeat (first | apply Kd.N_alloc | apply Kd.N_drewN | apply Kd.N_drew)); exact HO275.out) (by first | exact Kd.N_base ho0 | exact Kd.R_base ho0) hb); have n3_ := Aside0.mk (Kd.N_lower (Kd.N_mono (ok' := fun k_ => some k_ ≠ (.slice Ao14 t267.length co14 : Value).ownBlock ∧ some k_ ≠ (.slice Ao17 t270.length co17 : Value).ownBlock ∧ some k_ ≠ (.slice Ao18 t273.length co18 : Value).ownBlock) ho0 (fun k_ hk_ => ⟨(Kd.fresh' (Kd.R_lt (by (with_reducible repeat (first | apply Kd.R_alloc | apply Kd.R_drewN | apply Kd.R_drew)); exact HO269.out)) k_ hk_), (Kd.fresh' (Kd.N_lt (by (with_reducible repeat (first | apply Kd.N_alloc | apply Kd.N_drewN | apply Kd.N_drew)); exact HO272.out)) k_ hk_), (Kd.fresh' (Kd.N_lt (by (with_reducible repeat (first | apply Kd.N_alloc | apply Kd.N_drewN | apply Kd.N_drew)); exact HO275.out)) k_ hk_)⟩)) (below_size (by repeat (first | (with_reducible first | exact HB.out | apply below_alloc | apply pw_below_drewN | apply below_drew1) | exact HB.out)))); have n4_ := Aside0.mk (below_step (by repeat (first | (with_reducible first | exact HB.out | apply below_alloc | apply pw_below_drewN | apply below_drew1) | exact HB.out)) hb); clear HO269; clear HO272; clear HO275; clear HB; have HO269 := n0_; have HO272 := n1_; have HO275 := n2_; have HO278 := n3_; have HB := n4_; clear n0_ n1_ n2_ n3_ n4_; (try clear hb); (try clear hb2); (try clear hk); (try clear hi); (try clear ho0)) | ((with_reducible refine gate_callee (f := 14) rfl ?_); refine goesL_ (some 35) rfl rfl Try.func14 (by kernel_rfl) rfl #[.slice Ao18 t273.length co18, .slice Ao17 t270.length co17] rfl (by (try simp only [List.map_toArray, List.map_cons, List.map_nil]); first | done | rfl | (simp only [List.length_drop, List.length_take]; rfl)) ?_; (with_reducible refine (diff_Diff.calls _ _ t273 _ _ t270 t280 t283 _ ?side1 ?side2 ?side3 ?side4 A7.out).mono ?_); (case side1 => repeat (first | exact (Kd.N_reads' HO275.out).2.2 | (with_reducible refine Kd.C_alloc ?_ _) | (with_reducible refine Kd.C_drewN ?_ _) | (with_reducible refine Kd.C_drew ?_))); (case side2 => exact (Kd.N_reads' HO275.out).2.1); (case side3 => repeat (first | exact (Kd.N_reads' HO272.out).2.2 | (with_reducible refine Kd.C_alloc ?_ _) | (with_reducible refine Kd.C_drewN ?_ _) | (with_reducible refine Kd.C_drew ?_))); (case side4 => exact (Kd.N_reads' HO272.out).2.1); rintro e w20 ⟨v281, rfl, ho0, hb⟩; refine ⟨_, rfl, ?_⟩; have n0_ := Aside0.mk (Kd.R_below (by (with_reducible repeat (first | apply Kd.R_alloc | apply Kd.R_drewN | apply Kd.R_drew)); exact HO269.out) hb); have n1_ := Aside0.mk (Kd.N_elder' (by (with_reducible repeat (first | apply Kd.N_alloc | apply Kd.N_drewN | apply Kd.N_drew)); exact HO272.out) (by first | exact Kd.N_base ho0 | exact Kd.R_base ho0) hb); have n2_ := Aside0.mk (Kd.N_elder' (by (with_reducible repeat (first | apply Kd.N_alloc | apply Kd.N_drewN | apply Kd.N_drew)); exact HO275.out) (by first | exact Kd.N_base ho0 | exact Kd.R_base ho0) hb); have n3_ := Aside0.mk (Kd.N_elder' (by (with_reducible repeat (first | apply Kd.N_alloc | apply Kd.N_drewN | apply Kd.N_drew)); exact HO278.out) (by first | exact Kd.N_base ho0 | exact Kd.R_base ho0) hb); have n4_ := Aside0.mk (Kd.N_lower (Kd.N_mono (ok' := fun k_ => some k_ ≠ (.slice Ao14 t267.length co14 : Value).ownBlock ∧ some k_ ≠ (.slice Ao17 t270.length co17 : Value).ownBlock ∧ some k_ ≠ (.slice Ao18 t273.length co18 : Value).ownBlock ∧ some k_ ≠ (v277 : Value).ownBlock) ho0 (fun k_ hk_ => ⟨(Kd.fresh' (Kd.R_lt (by (with_reducible repeat (first | apply Kd.R_alloc | apply Kd.R_drewN | apply Kd.R_drew)); exact HO269.out)) k_ hk_), (Kd.fresh' (Kd.N_lt (by (with_reducible repeat (first | apply Kd.N_alloc | apply Kd.N_drewN | apply Kd.N_drew)); exact HO272.out)) k_ hk_), (Kd.fresh' (Kd.N_lt (by (with_reducible repeat (first | apply Kd.N_alloc | apply Kd.N_drewN | apply Kd.N_drew)); exact HO275.out)) k_ hk_), (Kd.fresh' (Kd.N_lt (by (with_reducible repeat (first | apply Kd.N_alloc | apply Kd.N_drewN | apply Kd.N_drew)); exact HO278.out)) k_ hk_)⟩)) (below_size (by repeat (first | (with_reducible first | exact HB.out | apply below_alloc | apply pw_below_drewN | apply below_drew1) | exact HB.out)))); have n5_ := Aside0.mk (below_step (by repeat (first | (with_reducible first | exact HB.out | apply below_alloc | apply pw_below_drewN | apply below_drew1) | exact HB.out)) hb); clear HO269; clear HO272; clear HO275; clear HO278; clear HB; have HO269 := n0_; have HO272 := n1_; have HO275 := n2_; have HO278 := n3_; have HO282 := n4_; have HB := n5_; clear n0_ n1_ n2_ n3_ n4_ n5_; (try clear hb); (try clear hb2); (try clear hk); (try clear hi); (try clear ho0)) | ((with_reducible refine gate_callee (f := 14) rfl ?_); refine goesL_ (some 41) rfl rfl Try.func14 (by kernel_rfl) rfl #[.slice Ao17 t270.length co17, .slice Ao17 t270.length co17] rfl (by (try simp only [List.map_toArray, List.map_cons, List.map_nil]); first | done | rfl | (simp only [List.length_drop, List.length_take]; rfl)) ?_; (with_reducible refine (diff_Diff.calls _ _ t270 _ _ t270 t284 t287 _ ?side1 ?side2 ?side3 ?side4 A8.out).mono ?_); (case side1 => repeat (first | exact (Kd.N_reads' HO272.out).2.2 | (with_reducible refine Kd.C_alloc ?_ _) | (with_reducible refine Kd.C_drewN ?_ _) | (with_reducible refine Kd.C_drew ?_))); (case side2 => exact (Kd.N_reads' HO272.out).2.1); (case side3 => repeat (first | exact (Kd.N_reads' HO272.out).2.2 | (with_reducible refine Kd.C_alloc ?_ _) | (with_reducible refine Kd.C_drewN ?_ _) | (with_reducible refine Kd.C_drew ?_))); (case side4 => exact (Kd.N_reads' HO272.out).2.1); rintro e w21 ⟨v285, rfl, ho0, hb⟩; refine ⟨_, rfl, ?_⟩; have n0_ := Aside0.mk (Kd.R_below (by (with_reducible repeat (first | apply Kd.R_alloc | apply Kd.R_drewN | apply Kd.R_drew)); exact HO269.out) hb); have n1_ := Aside0.mk (Kd.N_elder' (by (with_reducible repeat (first | apply Kd.N_alloc | apply Kd.N_drewN | apply Kd.N_drew)); exact HO272.out) (by first | exact Kd.N_base ho0 | exact Kd.R_base ho0) hb); have n2_ := Aside0.mk (Kd.N_elder' (by (with_reducible repeat (first | apply Kd.N_alloc | apply Kd.N_drewN | apply Kd.N_drew)); exact HO275.out) (by first | exact Kd.N_base ho0 | exact Kd.R_base ho0) hb); have n3_ := Aside0.mk (Kd.N_elder' (by (with_reducible repeat (first | apply Kd.N_alloc | apply Kd.N_drewN | apply Kd.N_drew)); exact HO278.out) (by first | exact Kd.N_base ho0 | exact Kd.R_base ho0) hb); have n4_ := Aside0.mk (Kd.N_elder' (by (with_reducible repeat (first | apply Kd.N_alloc | apply Kd.N_drewN | apply Kd.N_drew)); exact HO282.out) (by first | exact Kd.N_base ho0 | exact Kd.R_base ho0) hb); have n5_ := Aside0.mk (Kd.N_lower (Kd.N_mono (ok' := fun k_ => some k_ ≠ (.slice Ao14 t267.length co14 : Value).ownBlock ∧ some k_ ≠ (.slice Ao17 t270.length co17 : Value).ownBlock ∧ some k_ ≠ (.slice Ao18 t273.length co18 : Value).ownBlock ∧ some k_ ≠ (v277 : Value).ownBlock ∧ some k_ ≠ (v281 : Value).ownBlock) ho0 (fun k_ hk_ => ⟨(Kd.fresh' (Kd.R_lt (by (with_reducible repeat (first | apply Kd.R_alloc | apply Kd.R_drewN | apply Kd.R_drew)); exact HO269.out)) k_ hk_), (Kd.fresh' (Kd.N_lt (by (with_reducible repeat (first | apply Kd.N_alloc | apply Kd.N_drewN | apply Kd.N_drew)); exact HO272.out)) k_ hk_), (Kd.fresh' (Kd.N_lt (by (with_reducible repeat (first | apply Kd.N_alloc | apply Kd.N_drewN | apply Kd.N_drew)); exact HO275.out)) k_ hk_), (Kd.fresh' (Kd.N_lt (by (with_reducible repeat (first | apply Kd.N_alloc | apply Kd.N_drewN | apply Kd.N_drew)); exact HO278.out)) k_ hk_), (Kd.fresh' (Kd.N_lt (by (with_reducible repeat (first | apply Kd.N_alloc | apply Kd.N_drewN | apply Kd.N_drew)); exact HO282.out)) k_ hk_)⟩)) (below_size (by repeat (first | (with_reducible first | exact HB.out | apply below_alloc | apply pw_below_drewN | apply below_drew1) | exact HB.out)))); have n6_ := Aside0.mk (below_step (by repeat (first | (with_reducible first | exact HB.out | apply below_alloc | apply pw_below_drewN | apply below_drew1) | exact HB.out)) hb); clear HO269; clear HO272; clear HO275; clear HO278; clear HO282; clear HB; have HO269 := n0_; have HO272 := n1_; have HO275 := n2_; have HO278 := n3_; have HO282 := n4_; have HO286 := n5_; have HB := n6_; clear n0_ n1_ n2_ n3_ n4_ n5_ n6_; (try clear hb); (try clear hb2); (try clear hk); (try clear hi); (try clear ho0); obtain ⟨Ao22, co22, eo22⟩ := Kd.N_slice HO278.out; subst eo22) | ((with_reducible refine gate_callee (f := 19) rfl ?_); refine goesL_ (some 47) rfl rfl Try.func19 (by kernel_rfl) rfl #[.slice Ao17 t270.length co17, .slice Ao22 t276.length co22] rfl (by (try simp only [List.map_toArray, List.map_cons, List.map_nil]); first | done | rfl | (simp only [List.length_drop, List.length_take]; rfl)) ?_; (with_reducible refine (diff_Apply.calls _ _ t270 _ _ t276 t288 t289 _ ?side1 ?side2 ?side3 ?side4 A9.out).mono ?_); (case side1 => repeat (first | exact (Kd.N_reads' HO272.out).2.2 | (with_reducible refine Kd.C_alloc ?_ _) | (with_reducible refine Kd.C_drewN ?_ _) | (with_reducible refine Kd.C_drew ?_))); (case side2 => exact (Kd.N_reads' HO272.out).2.1); (case side3 => repeat (first | exact (Kd.N_reads' HO278.out).2.2 | (with_reducible refine Kd.C_alloc ?_ _) | (with_reducible refine Kd.C_drewN ?_ _) | (with_reducible refine Kd.C_drew ?_))); (case side4 => exact (Kd.N_reads' HO278.out).2.1); rintro e w23 ⟨v290, rfl, ho0, hb⟩; refine ⟨_, rfl, ?_⟩; have n0_ := Aside0.mk (Kd.R_below (by (with_reducible repeat (first | apply Kd.R_alloc | apply Kd.R_drewN | apply Kd.R_drew)); exact HO269.out) hb); have n1_ := Aside0.mk (Kd.N_elder' (by (with_reducible repeat (first | apply Kd.N_alloc | apply Kd.N_drewN | apply Kd.N_drew)); exact HO272.out) (by first | exact Kd.N_base ho0 | exact Kd.R_base ho0) hb); have n2_ := Aside0.mk (Kd.N_elder' (by (with_reducible repeat (first | apply Kd.N_alloc | apply Kd.N_drewN | apply Kd.N_drew)); exact HO275.out) (by first | exact Kd.N_base ho0 | exact Kd.R_base ho0) hb); have n3_ := Aside0.mk (Kd.N_elder' (by (with_reducible repeat (first | apply Kd.N_alloc | apply Kd.N_drewN | apply Kd.N_drew)); exact HO278.out) (by first | exact Kd.N_base ho0 | exact Kd.R_base ho0) hb); have n4_ := Aside0.mk (Kd.N_elder' (by (with_reducible repeat (first | apply Kd.N_alloc | apply Kd.N_drewN | apply Kd.N_drew)); exact HO282.out) (by first | exact Kd.N_base ho0 | exact Kd.R_base ho0) hb); have n5_ := Aside0.mk (Kd.N_elder' (by (with_reducible repeat (first | apply Kd.N_alloc | apply Kd.N_drewN | apply Kd.N_drew)); exact HO286.out) (by first | exact Kd.N_base ho0 | exact Kd.R_base ho0) hb); have n6_ := Aside0.mk (Kd.N_lower (Kd.N_mono (ok' := fun k_ => some k_ ≠ (.slice Ao14 t267.length co14 : Value).ownBlock ∧ some k_ ≠ (.slice Ao17 t270.length co17 : Value).ownBlock ∧ some k_ ≠ (.slice Ao18 t273.length co18 : Value).ownBlock ∧ some k_ ≠ (.slice Ao22 t276.length co22 : Value).ownBlock ∧ some k_ ≠ (v281 : Value).ownBlock ∧ some k_ ≠ (v285 : Value).ownBlock) (Kd.R_N (Kd.R_bound ho0)) (fun k_ hk_ => ⟨(Kd.fresh' (Kd.R_lt (by (with_reducible repeat (first | apply Kd.R_alloc | apply Kd.R_drewN | apply Kd.R_drew)); exact HO269.out)) k_ hk_.2.1), (Kd.fresh' (Kd.N_lt (by (with_reducible repeat (first | apply Kd.N_alloc | apply Kd.N_drewN | apply Kd.N_drew)); exact HO272.out)) k_ hk_.2.1), (Kd.fresh' (Kd.N_lt (by (with_reducible repeat (first | apply Kd.N_alloc | apply Kd.N_drewN | apply Kd.N_drew)); exact HO275.out)) k_ hk_.2.1), (Kd.fresh' (Kd.N_lt (by (with_reducible repeat (first | apply Kd.N_alloc | apply Kd.N_drewN | apply Kd.N_drew)); exact HO278.out)) k_ hk_.2.1), (Kd.fresh' (Kd.N_lt (by (with_reducible repeat (first | apply Kd.N_alloc | apply Kd.N_drewN | apply Kd.N_drew)); exact HO282.out)) k_ hk_.2.1), (Kd.fresh' (Kd.N_lt (by (with_reducible repeat (first | apply Kd.N_alloc | apply Kd.N_drewN | apply Kd.N_drew)); exact HO286.out)) k_ hk_.2.1)⟩)) (below_size (by repeat (first | (with_reducible first | exact HB.out | apply below_alloc | apply pw_below_drewN | apply below_drew1) | exact HB.out)))); have n7_ := Aside0.mk (below_step (by repeat (first | (with_reducible first | exact HB.out | apply below_alloc | apply pw_below_drewN | apply below_drew1) | exact HB.out)) hb); clear HO269; clear HO272; clear HO275; clear HO278; clear HO282; clear HO286; clear HB; have HO269 := n0_; have HO272 := n1_; have HO275 := n2_; have HO278 := n3_; have HO282 := n4_; have HO286 := n5_; have HO291 := n6_; have HB := n7_; clear n0_ n1_ n2_ n3_ n4_ n5_ n6_ n7_; (try clear hb); (try clear hb2); (try clear hk); (try clear hi); (try clear ho0)) | ((with_reducible refine gate_callee (f := 20) rfl ?_); refine goesL_ (some 53) rfl rfl Try.func20 (by kernel_rfl) rfl #[.slice Ao22 t276.length co22] rfl (by (try simp only [List.map_toArray, List.map_cons, List.map_nil]); first | done | rfl | (simp only [List.length_drop, List.length_take]; rfl)) ?_; (with_reducible refine (diff_Turn.calls _ _ t276 t292 _ ?side1 ?side2 A10.out).mono ?_); (case side1 => repeat (first | exact (Kd.N_reads' HO278.out).2.2 | (with_reducible refine Kd.C_alloc ?_ _) | (with_reducible refine Kd.C_drewN ?_ _) | (with_reducible refine Kd.C_drew ?_))); (case side2 => exact (Kd.N_reads' HO278.out).2.1); rintro e w24 ⟨v293, rfl, ho0, hb⟩; refine ⟨_, rfl, ?_⟩; have n0_ := Aside0.mk (Kd.R_below (by (with_reducible repeat (first | apply Kd.R_alloc | apply Kd.R_drewN | apply Kd.R_drew)); exact HO269.out) hb); have n1_ := Aside0.mk (Kd.N_elder' (by (with_reducible repeat (first | apply Kd.N_alloc | apply Kd.N_drewN | apply Kd.N_drew)); exact HO272.out) (by first | exact Kd.N_base ho0 | exact Kd.R_base ho0) hb); have n2_ := Aside0.mk (Kd.N_elder' (by (with_reducible repeat (first | apply Kd.N_alloc | apply Kd.N_drewN | apply Kd.N_drew)); exact HO275.out) (by first | exact Kd.N_base ho0 | exact Kd.R_base ho0) hb); have n3_ := Aside0.mk (Kd.N_elder' (by (with_reducible repeat (first | apply Kd.N_alloc | apply Kd.N_drewN | apply Kd.N_drew)); exact HO278.out) (by first | exact Kd.N_base ho0 | exact Kd.R_base ho0) hb); have n4_ := Aside0.mk (Kd.N_elder' (by (with_reducible repeat (first | apply Kd.N_alloc | apply Kd.N_drewN | apply Kd.N_drew)); exact HO282.out) (by first | exact Kd.N_base ho0 | exact Kd.R_base ho0) hb); have n5_ := Aside0.mk (Kd.N_elder' (by (with_reducible repeat (first | apply Kd.N_alloc | apply Kd.N_drewN | apply Kd.N_drew)); exact HO286.out) (by first | exact Kd.N_base ho0 | exact Kd.R_base ho0) hb); have n6_ := Aside0.mk (Kd.N_elder' (by (with_reducible repeat (first | apply Kd.N_alloc | apply Kd.N_drewN | apply Kd.N_drew)); exact HO291.out) (by first | exact Kd.N_base ho0 | exact Kd.R_base ho0) hb); have n7_ := Aside0.mk (Kd.N_lower (Kd.N_mono (ok' := fun k_ => some k_ ≠ (.slice Ao14 t267.length co14 : Value).ownBlock ∧ some k_ ≠ (.slice Ao17 t270.length co17 : Value).ownBlock ∧ some k_ ≠ (.slice Ao18 t273.length co18 : Value).ownBlock ∧ some k_ ≠ (.slice Ao22 t276.length co22 : Value).ownBlock ∧ some k_ ≠ (v281 : Value).ownBlock ∧ some k_ ≠ (v285 : Value).ownBlock ∧ some k_ ≠ (v290 : Value).ownBlock) ho0 (fun k_ hk_ => ⟨(Kd.fresh' (Kd.R_lt (by (with_reducible repeat (first | apply Kd.R_alloc | apply Kd.R_drewN | apply Kd.R_drew)); exact HO269.out)) k_ hk_), (Kd.fresh' (Kd.N_lt (by (with_reducible repeat (first | apply Kd.N_alloc | apply Kd.N_drewN | apply Kd.N_drew)); exact HO272.out)) k_ hk_), (Kd.fresh' (Kd.N_lt (by (with_reducible repeat (first | apply Kd.N_alloc | apply Kd.N_drewN | apply Kd.N_drew)); exact HO275.out)) k_ hk_), (Kd.fresh' (Kd.N_lt (by (with_reducible repeat (first | apply Kd.N_alloc | apply Kd.N_drewN | apply Kd.N_drew)); exact HO278.out)) k_ hk_), (Kd.fresh' (Kd.N_lt (by (with_reducible repeat (first | apply Kd.N_alloc | apply Kd.N_drewN | apply Kd.N_drew)); exact HO282.out)) k_ hk_), (Kd.fresh' (Kd.N_lt (by (with_reducible repeat (first | apply Kd.N_alloc | apply Kd.N_drewN | apply Kd.N_drew)); exact HO286.out)) k_ hk_), (Kd.fresh' (Kd.N_lt (by (with_reducible repeat (first | apply Kd.N_alloc | apply Kd.N_drewN | apply Kd.N_drew)); exact HO291.out)) k_ hk_)⟩)) (below_size (by repeat (first | (with_reducible first | exact HB.out | apply below_alloc | apply pw_below_drewN | apply below_drew1) | exact HB.out)))); have n8_ := Aside0.mk (below_step (by repeat (first | (with_reducible first | exact HB.out | apply below_alloc | apply pw_below_drewN | apply below_drew1) | exact HB.out)) hb); clear HO269; clear HO272; clear HO275; clear HO278; clear HO282; clear HO286; clear HO291; clear HB; have HO269 := n0_; have HO272 := n1_; have HO275 := n2_; have HO278 := n3_; have HO282 := n4_; have HO286 := n5_; have HO291 := n6_; have HO294 := n7_; have HB := n8_; clear n0_ n1_ n2_ n3_ n4_ n5_ n6_ n7_ n8_; (try clear hb); (try clear hb2); (try clear hk); (try clear hi); (try clear ho0); obtain ⟨Ao25, co25, eo25⟩ := Kd.N_slice HO294.out; subst eo25) | ((with_reducible refine gate_callee (f := 19) rfl ?_); refine goesL_ (some 54) rfl rfl Try.func19 (by kernel_rfl) rfl #[.slice Ao18 t273.length co18, .slice Ao25 t292.length co25] rfl (by (try simp only [List.map_toArray, List.map_cons, List.map_nil]); first | done | rfl | (simp only [List.length_drop, List.length_take]; rfl)) ?_; (with_reducible refine (diff_Apply.calls _ _ t273 _ _ t292 t295 t296 _ ?side1 ?side2 ?side3 ?side4 A11.out).mono ?_); (case side1 => repeat (first | exact (Kd.N_reads' HO275.out).2.2 | (with_reducible refine Kd.C_alloc ?_ _) | (with_reducible refine Kd.C_drewN ?_ _) | (with_reducible refine Kd.C_drew ?_))); (case side2 => exact (Kd.N_reads' HO275.out).2.1); (case side3 => repeat (first | exact (Kd.N_reads' HO294.out).2.2 | (with_reducible refine Kd.C_alloc ?_ _) | (with_reducible refine Kd.C_drewN ?_ _) | (with_reducible refine Kd.C_drew ?_))); (case side4 => exact (Kd.N_reads' HO294.out).2.1); rintro e w26 ⟨v297, rfl, ho0, hb⟩; refine ⟨_, rfl, ?_⟩; have n0_ := Aside0.mk (Kd.R_below (by (with_reducible repeat (first | apply Kd.R_alloc | apply Kd.R_drewN | apply Kd.R_drew)); exact HO269.out) hb); have n1_ := Aside0.mk (Kd.N_elder' (by (with_reducible repeat (first | apply Kd.N_alloc | apply Kd.N_drewN | apply Kd.N_drew)); exact HO272.out) (by first | exact Kd.N_base ho0 | exact Kd.R_base ho0) hb); have n2_ := Aside0.mk (Kd.N_elder' (by (with_reducible repeat (first | apply Kd.N_alloc | apply Kd.N_drewN | apply Kd.N_drew)); exact HO275.out) (by first | exact Kd.N_base ho0 | exact Kd.R_base ho0) hb); have n3_ := Aside0.mk (Kd.N_elder' (by (with_reducible repeat (first | apply Kd.N_alloc | apply Kd.N_drewN | apply Kd.N_drew)); exact HO278.out) (by first | exact Kd.N_base ho0 | exact Kd.R_base ho0) hb); have n4_ := Aside0.mk (Kd.N_elder' (by (with_reducible repeat (first | apply Kd.N_alloc | apply Kd.N_drewN | apply Kd.N_drew)); exact HO282.out) (by first | exact Kd.N_base ho0 | exact Kd.R_base ho0) hb); have n5_ := Aside0.mk (Kd.N_elder' (by (with_reducible repeat (first | apply Kd.N_alloc | apply Kd.N_drewN | apply Kd.N_drew)); exact HO286.out) (by first | exact Kd.N_base ho0 | exact Kd.R_base ho0) hb); have n6_ := Aside0.mk (Kd.N_elder' (by (with_reducible repeat (first | apply Kd.N_alloc | apply Kd.N_drewN | apply Kd.N_drew)); exact HO291.out) (by first | exact Kd.N_base ho0 | exact Kd.R_base ho0) hb); have n7_ := Aside0.mk (Kd.N_elder' (by (with_reducible repeat (first | apply Kd.N_alloc | apply Kd.N_drewN | apply Kd.N_drew)); exact HO294.out) (by first | exact Kd.N_base ho0 | exact Kd.R_base ho0) hb); have n8_ := Aside0.mk (Kd.N_lower (Kd.N_mono (ok' := fun k_ => some k_ ≠ (.slice Ao14 t267.length co14 : Value).ownBlock ∧ some k_ ≠ (.slice Ao17 t270.length co17 : Value).ownBlock ∧ some k_ ≠ (.slice Ao18 t273.length co18 : Value).ownBlock ∧ some k_ ≠ (.slice Ao22 t276.length co22 : Value).ownBlock ∧ some k_ ≠ (v281 : Value).ownBlock ∧ some k_ ≠ (v285 : Value).ownBlock ∧ some k_ ≠ (v290 : Value).ownBlock ∧ some k_ ≠ (.slice Ao25 t292.length co25 : Value).ownBlock) (Kd.R_N (Kd.R_bound ho0)) (fun k_ hk_ => ⟨(Kd.fresh' (Kd.R_lt (by (with_reducible repeat (first | apply Kd.R_alloc | apply Kd.R_drewN | apply Kd.R_drew)); exact HO269.out)) k_ hk_.2.1), (Kd.fresh' (Kd.N_lt (by (with_reducible repeat (first | apply Kd.N_alloc | apply Kd.N_drewN | apply Kd.N_drew)); exact HO272.out)) k_ hk_.2.1), (Kd.fresh' (Kd.N_lt (by (with_reducible repeat (first | apply Kd.N_alloc | apply Kd.N_drewN | apply Kd.N_drew)); exact HO275.out)) k_ hk_.2.1), (Kd.fresh' (Kd.N_lt (by (with_reducible repeat (first | apply Kd.N_alloc | apply Kd.N_drewN | apply Kd.N_drew)); exact HO278.out)) k_ hk_.2.1), (Kd.fresh' (Kd.N_lt (by (with_reducible repeat (first | apply Kd.N_alloc | apply Kd.N_drewN | apply Kd.N_drew)); exact HO282.out)) k_ hk_.2.1), (Kd.fresh' (Kd.N_lt (by (with_reducible repeat (first | apply Kd.N_alloc | apply Kd.N_drewN | apply Kd.N_drew)); exact HO286.out)) k_ hk_.2.1), (Kd.fresh' (Kd.N_lt (by (with_reducible repeat (first | apply Kd.N_alloc | apply Kd.N_drewN | apply Kd.N_drew)); exact HO291.out)) k_ hk_.2.1), (Kd.fresh' (Kd.N_lt (by (with_reducible repeat (first | apply Kd.N_alloc | apply Kd.N_drewN | apply Kd.N_drew)); exact HO294.out)) k_ hk_.2.1)⟩)) (below_size (by repeat (first | (with_reducible first | exact HB.out | apply below_alloc | apply pw_below_drewN | apply below_drew1) | exact HB.out)))); have n9_ := Aside0.mk (below_step (by repeat (first | (with_reducible first | exact HB.out | apply below_alloc | apply pw_below_drewN | apply below_drew1) | exact HB.out)) hb); clear HO269; clear HO272; clear HO275; clear HO278; clear HO282; clear HO286; clear HO291; clear HO294; clear HB; have HO269 := n0_; have HO272 := n1_; have HO275 := n2_; have HO278 := n3_; have HO282 := n4_; have HO286 := n5_; have HO291 := n6_; have HO294 := n7_; have HO298 := n8_; have HB := n9_; clear n0_ n1_ n2_ n3_ n4_ n5_ n6_ n7_ n8_ n9_; (try clear hb); (try clear hb2); (try clear hk); (try clear hi); (try clear ho0)))
  (try simp only [Act.put, sA_, sB_, sC_])
  go_cut [74] (fun v74 wc => ∃ (kq : Nat) (x74_11 : Bool), v74 = .bool x74_11 ∧ Aside0 (dioramalaw36_DiffLeads.j0 kq t270 t273 t276 t280 t284 t288 t295 x74_11 = some r) ∧ Aside0 (kq ≤ k) ∧ Aside0 (Kd.N (Kd.slice 22 (Kd.slice 3 (Kd.int .i64))) 64 wc w.heap.size (fun k_ => some k_ ≠ ((.slice Ao18 t273.length co18) : Value).ownBlock ∧ some k_ ≠ ((.slice Ao22 t276.length co22) : Value).ownBlock ∧ some k_ ≠ (v281 : Value).ownBlock ∧ some k_ ≠ (v285 : Value).ownBlock ∧ some k_ ≠ (v290 : Value).ownBlock ∧ some k_ ≠ (v297 : Value).ownBlock) (.slice Ao17 t270.length co17) t270) ∧ Aside0 (Kd.N (Kd.slice 22 (Kd.slice 3 (Kd.int .i64))) 64 wc w.heap.size (fun k_ => some k_ ≠ ((.slice Ao17 t270.length co17) : Value).ownBlock ∧ some k_ ≠ ((.slice Ao22 t276.length co22) : Value).ownBlock ∧ some k_ ≠ (v281 : Value).ownBlock ∧ some k_ ≠ (v285 : Value).ownBlock ∧ some k_ ≠ (v290 : Value).ownBlock ∧ some k_ ≠ (v297 : Value).ownBlock) (.slice Ao18 t273.length co18) t273) ∧ Aside0 (Kd.N k61 61 wc w.heap.size (fun k_ => some k_ ≠ ((.slice Ao17 t270.length co17) : Value).ownBlock ∧ some k_ ≠ ((.slice Ao18 t273.length co18) : Value).ownBlock ∧ some k_ ≠ (v281 : Value).ownBlock ∧ some k_ ≠ (v285 : Value).ownBlock ∧ some k_ ≠ (v290 : Value).ownBlock ∧ some k_ ≠ (v297 : Value).ownBlock) (.slice Ao22 t276.length co22) t276) ∧ Aside0 (Kd.N k61 61 wc w.heap.size (fun k_ => some k_ ≠ ((.slice Ao17 t270.length co17) : Value).ownBlock ∧ some k_ ≠ ((.slice Ao18 t273.length co18) : Value).ownBlock ∧ some k_ ≠ ((.slice Ao22 t276.length co22) : Value).ownBlock ∧ some k_ ≠ (v285 : Value).ownBlock ∧ some k_ ≠ (v290 : Value).ownBlock ∧ some k_ ≠ (v297 : Value).ownBlock) v281 t280) ∧ Aside0 (Kd.N k61 61 wc w.heap.size (fun k_ => some k_ ≠ ((.slice Ao17 t270.length co17) : Value).ownBlock ∧ some k_ ≠ ((.slice Ao18 t273.length co18) : Value).ownBlock ∧ some k_ ≠ ((.slice Ao22 t276.length co22) : Value).ownBlock ∧ some k_ ≠ (v281 : Value).ownBlock ∧ some k_ ≠ (v290 : Value).ownBlock ∧ some k_ ≠ (v297 : Value).ownBlock) v285 t284) ∧ Aside0 (Kd.N (Kd.slice 22 (Kd.slice 3 (Kd.int .i64))) 64 wc w.heap.size (fun k_ => some k_ ≠ ((.slice Ao17 t270.length co17) : Value).ownBlock ∧ some k_ ≠ ((.slice Ao18 t273.length co18) : Value).ownBlock ∧ some k_ ≠ ((.slice Ao22 t276.length co22) : Value).ownBlock ∧ some k_ ≠ (v281 : Value).ownBlock ∧ some k_ ≠ (v285 : Value).ownBlock ∧ some k_ ≠ (v297 : Value).ownBlock) v290 t288) ∧ Aside0 (Kd.N (Kd.slice 22 (Kd.slice 3 (Kd.int .i64))) 64 wc w.heap.size (fun k_ => some k_ ≠ ((.slice Ao17 t270.length co17) : Value).ownBlock ∧ some k_ ≠ ((.slice Ao18 t273.length co18) : Value).ownBlock ∧ some k_ ≠ ((.slice Ao22 t276.length co22) : Value).ownBlock ∧ some k_ ≠ (v281 : Value).ownBlock ∧ some k_ ≠ (v285 : Value).ownBlock ∧ some k_ ≠ (v290 : Value).ownBlock) v297 t295) ∧ Aside0 (Below w.heap.size w wc))
  case first =>
    have H := HC12.out; clear HC12
    by_cases c27 : t279 = 0
    · rw [if_pos c27] at H
      have c27b0 : (t279 == 0) = true := beq_iff_eq.mpr c27; have c27b1 : (t279 != 0) = false := bne_eq_false_iff_eq.mpr c27; clear c27
      (first | rw [c27b0] | (simp only [i64_w, i32_w]; rw [c27b0]) | skip)
      by_cases c28 : t283 = 0
      · rw [if_pos c28] at H
        have c28b0 : (t283 == 0) = true := beq_iff_eq.mpr c28; have c28b1 : (t283 != 0) = false := bne_eq_false_iff_eq.mpr c28; clear c28
        by_cases c29 : t287 = 0
        · rw [if_pos c29] at H
          have c29b0 : (t287 == 0) = true := beq_iff_eq.mpr c29; have c29b1 : (t287 != 0) = false := bne_eq_false_iff_eq.mpr c29; clear c29
          by_cases c30 : t289 = 0
          · rw [if_pos c30] at H
            have c30b0 : (t289 == 0) = true := beq_iff_eq.mpr c30; have c30b1 : (t289 != 0) = false := bne_eq_false_iff_eq.mpr c30; clear c30; have H' := Aside0.mk H; clear H; go_wp2
            go_meet
            case rel => exact ⟨_, ((t296 != 0)), (by first | rfl | (simp; done) | (simp [*]; done)), H', ⟨by first | omega | exact Nat.le_refl _⟩, ⟨by (with_reducible repeat (first | apply Kd.N_alloc | apply Kd.N_drewN | apply Kd.N_drew)); exact Kd.N_mono HO272.out (fun _ hk => ⟨hk.1.1.1.1.1.1.2, ⟨hk.1.1.1.1.1.2, ⟨hk.1.1.1.1.2, ⟨hk.1.1.1.2, ⟨hk.1.1.2, hk.2⟩⟩⟩⟩⟩)⟩, ⟨by (with_reducible repeat (first | apply Kd.N_alloc | apply Kd.N_drewN | apply Kd.N_drew)); exact Kd.N_mono HO275.out (fun _ hk => ⟨hk.1.1.1.1.1.1.2, ⟨hk.1.1.1.1.1.2, ⟨hk.1.1.1.1.2, ⟨hk.1.1.1.2, ⟨hk.1.1.2, hk.2⟩⟩⟩⟩⟩)⟩, ⟨by (with_reducible repeat (first | apply Kd.N_alloc | apply Kd.N_drewN | apply Kd.N_drew)); exact Kd.N_mono HO278.out (fun _ hk => ⟨hk.1.1.1.1.1.2.1, ⟨hk.1.1.1.1.1.2.2, ⟨hk.1.1.1.1.2, ⟨hk.1.1.1.2, ⟨hk.1.1.2, hk.2⟩⟩⟩⟩⟩)⟩, ⟨by (with_reducible repeat (first | apply Kd.N_alloc | apply Kd.N_drewN | apply Kd.N_drew)); exact Kd.N_mono HO282.out (fun _ hk => ⟨hk.1.1.1.1.2.1, ⟨hk.1.1.1.1.2.2.1, ⟨hk.1.1.1.1.2.2.2, ⟨hk.1.1.1.2, ⟨hk.1.1.2, hk.2⟩⟩⟩⟩⟩)⟩, ⟨by (with_reducible repeat (first | apply Kd.N_alloc | apply Kd.N_drewN | apply Kd.N_drew)); exact Kd.N_mono HO286.out (fun _ hk => ⟨hk.1.1.1.2.1, ⟨hk.1.1.1.2.2.1, ⟨hk.1.1.1.2.2.2.1, ⟨hk.1.1.1.2.2.2.2, ⟨hk.1.1.2, hk.2⟩⟩⟩⟩⟩)⟩, ⟨by (with_reducible repeat (first | apply Kd.N_alloc | apply Kd.N_drewN | apply Kd.N_drew)); exact Kd.N_mono HO291.out (fun _ hk => ⟨hk.1.1.2.1, ⟨hk.1.1.2.2.1, ⟨hk.1.1.2.2.2.1, ⟨hk.1.1.2.2.2.2.1, ⟨hk.1.1.2.2.2.2.2, hk.2⟩⟩⟩⟩⟩)⟩, ⟨by (with_reducible repeat (first | apply Kd.N_alloc | apply Kd.N_drewN | apply Kd.N_drew)); exact Kd.N_mono HO298.out (fun _ hk => ⟨hk.2.1, ⟨hk.2.2.1, ⟨hk.2.2.2.1, ⟨hk.2.2.2.2.1, ⟨hk.2.2.2.2.2.1, hk.2.2.2.2.2.2.1⟩⟩⟩⟩⟩)⟩, ⟨by repeat (first | (with_reducible first | exact HB.out | apply below_alloc | apply pw_below_drewN | apply below_drew1) | exact HB.out)⟩⟩
          · rw [if_neg c30] at H
            have c30b0 : (t289 == 0) = false := beq_eq_false_iff_ne.mpr c30; have c30b1 : (t289 != 0) = true := bne_iff_ne.mpr c30; have H' := Aside0.mk H; clear H; go_wp2
            go_meet
            case rel => exact ⟨_, (true), (by first | rfl | (simp; done) | (simp [*]; done)), H', ⟨by first | omega | exact Nat.le_refl _⟩, ⟨by (with_reducible repeat (first | apply Kd.N_alloc | apply Kd.N_drewN | apply Kd.N_drew)); exact Kd.N_mono HO272.out (fun _ hk => ⟨hk.1.1.1.1.1.1.2, ⟨hk.1.1.1.1.1.2, ⟨hk.1.1.1.1.2, ⟨hk.1.1.1.2, ⟨hk.1.1.2, hk.2⟩⟩⟩⟩⟩)⟩, ⟨by (with_reducible repeat (first | apply Kd.N_alloc | apply Kd.N_drewN | apply Kd.N_drew)); exact Kd.N_mono HO275.out (fun _ hk => ⟨hk.1.1.1.1.1.1.2, ⟨hk.1.1.1.1.1.2, ⟨hk.1.1.1.1.2, ⟨hk.1.1.1.2, ⟨hk.1.1.2, hk.2⟩⟩⟩⟩⟩)⟩, ⟨by (with_reducible repeat (first | apply Kd.N_alloc | apply Kd.N_drewN | apply Kd.N_drew)); exact Kd.N_mono HO278.out (fun _ hk => ⟨hk.1.1.1.1.1.2.1, ⟨hk.1.1.1.1.1.2.2, ⟨hk.1.1.1.1.2, ⟨hk.1.1.1.2, ⟨hk.1.1.2, hk.2⟩⟩⟩⟩⟩)⟩, ⟨by (with_reducible repeat (first | apply Kd.N_alloc | apply Kd.N_drewN | apply Kd.N_drew)); exact Kd.N_mono HO282.out (fun _ hk => ⟨hk.1.1.1.1.2.1, ⟨hk.1.1.1.1.2.2.1, ⟨hk.1.1.1.1.2.2.2, ⟨hk.1.1.1.2, ⟨hk.1.1.2, hk.2⟩⟩⟩⟩⟩)⟩, ⟨by (with_reducible repeat (first | apply Kd.N_alloc | apply Kd.N_drewN | apply Kd.N_drew)); exact Kd.N_mono HO286.out (fun _ hk => ⟨hk.1.1.1.2.1, ⟨hk.1.1.1.2.2.1, ⟨hk.1.1.1.2.2.2.1, ⟨hk.1.1.1.2.2.2.2, ⟨hk.1.1.2, hk.2⟩⟩⟩⟩⟩)⟩, ⟨by (with_reducible repeat (first | apply Kd.N_alloc | apply Kd.N_drewN | apply Kd.N_drew)); exact Kd.N_mono HO291.out (fun _ hk => ⟨hk.1.1.2.1, ⟨hk.1.1.2.2.1, ⟨hk.1.1.2.2.2.1, ⟨hk.1.1.2.2.2.2.1, ⟨hk.1.1.2.2.2.2.2, hk.2⟩⟩⟩⟩⟩)⟩, ⟨by (with_reducible repeat (first | apply Kd.N_alloc | apply Kd.N_drewN | apply Kd.N_drew)); exact Kd.N_mono HO298.out (fun _ hk => ⟨hk.2.1, ⟨hk.2.2.1, ⟨hk.2.2.2.1, ⟨hk.2.2.2.2.1, ⟨hk.2.2.2.2.2.1, hk.2.2.2.2.2.2.1⟩⟩⟩⟩⟩)⟩, ⟨by repeat (first | (with_reducible first | exact HB.out | apply below_alloc | apply pw_below_drewN | apply below_drew1) | exact HB.out)⟩⟩
        · rw [if_neg c29] at H
          have c29b0 : (t287 == 0) = false := beq_eq_false_iff_ne.mpr c29; have c29b1 : (t287 != 0) = true := bne_iff_ne.mpr c29; have H' := Aside0.mk H; clear H; go_wp2
          go_meet
          case rel => exact ⟨_, (true), (by first | rfl | (simp; done) | (simp [*]; done)), H', ⟨by first | omega | exact Nat.le_refl _⟩, ⟨by (with_reducible repeat (first | apply Kd.N_alloc | apply Kd.N_drewN | apply Kd.N_drew)); exact Kd.N_mono HO272.out (fun _ hk => ⟨hk.1.1.1.1.1.1.2, ⟨hk.1.1.1.1.1.2, ⟨hk.1.1.1.1.2, ⟨hk.1.1.1.2, ⟨hk.1.1.2, hk.2⟩⟩⟩⟩⟩)⟩, ⟨by (with_reducible repeat (first | apply Kd.N_alloc | apply Kd.N_drewN | apply Kd.N_drew)); exact Kd.N_mono HO275.out (fun _ hk => ⟨hk.1.1.1.1.1.1.2, ⟨hk.1.1.1.1.1.2, ⟨hk.1.1.1.1.2, ⟨hk.1.1.1.2, ⟨hk.1.1.2, hk.2⟩⟩⟩⟩⟩)⟩, ⟨by (with_reducible repeat (first | apply Kd.N_alloc | apply Kd.N_drewN | apply Kd.N_drew)); exact Kd.N_mono HO278.out (fun _ hk => ⟨hk.1.1.1.1.1.2.1, ⟨hk.1.1.1.1.1.2.2, ⟨hk.1.1.1.1.2, ⟨hk.1.1.1.2, ⟨hk.1.1.2, hk.2⟩⟩⟩⟩⟩)⟩, ⟨by (with_reducible repeat (first | apply Kd.N_alloc | apply Kd.N_drewN | apply Kd.N_drew)); exact Kd.N_mono HO282.out (fun _ hk => ⟨hk.1.1.1.1.2.1, ⟨hk.1.1.1.1.2.2.1, ⟨hk.1.1.1.1.2.2.2, ⟨hk.1.1.1.2, ⟨hk.1.1.2, hk.2⟩⟩⟩⟩⟩)⟩, ⟨by (with_reducible repeat (first | apply Kd.N_alloc | apply Kd.N_drewN | apply Kd.N_drew)); exact Kd.N_mono HO286.out (fun _ hk => ⟨hk.1.1.1.2.1, ⟨hk.1.1.1.2.2.1, ⟨hk.1.1.1.2.2.2.1, ⟨hk.1.1.1.2.2.2.2, ⟨hk.1.1.2, hk.2⟩⟩⟩⟩⟩)⟩, ⟨by (with_reducible repeat (first | apply Kd.N_alloc | apply Kd.N_drewN | apply Kd.N_drew)); exact Kd.N_mono HO291.out (fun _ hk => ⟨hk.1.1.2.1, ⟨hk.1.1.2.2.1, ⟨hk.1.1.2.2.2.1, ⟨hk.1.1.2.2.2.2.1, ⟨hk.1.1.2.2.2.2.2, hk.2⟩⟩⟩⟩⟩)⟩, ⟨by (with_reducible repeat (first | apply Kd.N_alloc | apply Kd.N_drewN | apply Kd.N_drew)); exact Kd.N_mono HO298.out (fun _ hk => ⟨hk.2.1, ⟨hk.2.2.1, ⟨hk.2.2.2.1, ⟨hk.2.2.2.2.1, ⟨hk.2.2.2.2.2.1, hk.2.2.2.2.2.2.1⟩⟩⟩⟩⟩)⟩, ⟨by repeat (first | (with_reducible first | exact HB.out | apply below_alloc | apply pw_below_drewN | apply below_drew1) | exact HB.out)⟩⟩
      · rw [if_neg c28] at H
        have c28b0 : (t283 == 0) = false := beq_eq_false_iff_ne.mpr c28; have c28b1 : (t283 != 0) = true := bne_iff_ne.mpr c28; have H' := Aside0.mk H; clear H; go_wp2
        go_meet
        case rel => exact ⟨_, (true), (by first | rfl | (simp; done) | (simp [*]; done)), H', ⟨by first | omega | exact Nat.le_refl _⟩, ⟨by (with_reducible repeat (first | apply Kd.N_alloc | apply Kd.N_drewN | apply Kd.N_drew)); exact Kd.N_mono HO272.out (fun _ hk => ⟨hk.1.1.1.1.1.1.2, ⟨hk.1.1.1.1.1.2, ⟨hk.1.1.1.1.2, ⟨hk.1.1.1.2, ⟨hk.1.1.2, hk.2⟩⟩⟩⟩⟩)⟩, ⟨by (with_reducible repeat (first | apply Kd.N_alloc | apply Kd.N_drewN | apply Kd.N_drew)); exact Kd.N_mono HO275.out (fun _ hk => ⟨hk.1.1.1.1.1.1.2, ⟨hk.1.1.1.1.1.2, ⟨hk.1.1.1.1.2, ⟨hk.1.1.1.2, ⟨hk.1.1.2, hk.2⟩⟩⟩⟩⟩)⟩, ⟨by (with_reducible repeat (first | apply Kd.N_alloc | apply Kd.N_drewN | apply Kd.N_drew)); exact Kd.N_mono HO278.out (fun _ hk => ⟨hk.1.1.1.1.1.2.1, ⟨hk.1.1.1.1.1.2.2, ⟨hk.1.1.1.1.2, ⟨hk.1.1.1.2, ⟨hk.1.1.2, hk.2⟩⟩⟩⟩⟩)⟩, ⟨by (with_reducible repeat (first | apply Kd.N_alloc | apply Kd.N_drewN | apply Kd.N_drew)); exact Kd.N_mono HO282.out (fun _ hk => ⟨hk.1.1.1.1.2.1, ⟨hk.1.1.1.1.2.2.1, ⟨hk.1.1.1.1.2.2.2, ⟨hk.1.1.1.2, ⟨hk.1.1.2, hk.2⟩⟩⟩⟩⟩)⟩, ⟨by (with_reducible repeat (first | apply Kd.N_alloc | apply Kd.N_drewN | apply Kd.N_drew)); exact Kd.N_mono HO286.out (fun _ hk => ⟨hk.1.1.1.2.1, ⟨hk.1.1.1.2.2.1, ⟨hk.1.1.1.2.2.2.1, ⟨hk.1.1.1.2.2.2.2, ⟨hk.1.1.2, hk.2⟩⟩⟩⟩⟩)⟩, ⟨by (with_reducible repeat (first | apply Kd.N_alloc | apply Kd.N_drewN | apply Kd.N_drew)); exact Kd.N_mono HO291.out (fun _ hk => ⟨hk.1.1.2.1, ⟨hk.1.1.2.2.1, ⟨hk.1.1.2.2.2.1, ⟨hk.1.1.2.2.2.2.1, ⟨hk.1.1.2.2.2.2.2, hk.2⟩⟩⟩⟩⟩)⟩, ⟨by (with_reducible repeat (first | apply Kd.N_alloc | apply Kd.N_drewN | apply Kd.N_drew)); exact Kd.N_mono HO298.out (fun _ hk => ⟨hk.2.1, ⟨hk.2.2.1, ⟨hk.2.2.2.1, ⟨hk.2.2.2.2.1, ⟨hk.2.2.2.2.2.1, hk.2.2.2.2.2.2.1⟩⟩⟩⟩⟩)⟩, ⟨by repeat (first | (with_reducible first | exact HB.out | apply below_alloc | apply pw_below_drewN | apply below_drew1) | exact HB.out)⟩⟩
    · rw [if_neg c27] at H
      have c27b0 : (t279 == 0) = false := beq_eq_false_iff_ne.mpr c27; have c27b1 : (t279 != 0) = true := bne_iff_ne.mpr c27
      (first | rw [c27b0] | (simp only [i64_w, i32_w]; rw [c27b0]) | skip)
      have H' := Aside0.mk H; clear H; go_wp2
      go_meet
      case rel => exact ⟨_, (true), (by first | rfl | (simp; done) | (simp [*]; done)), H', ⟨by first | omega | exact Nat.le_refl _⟩, ⟨by (with_reducible repeat (first | apply Kd.N_alloc | apply Kd.N_drewN | apply Kd.N_drew)); exact Kd.N_mono HO272.out (fun _ hk => ⟨hk.1.1.1.1.1.1.2, ⟨hk.1.1.1.1.1.2, ⟨hk.1.1.1.1.2, ⟨hk.1.1.1.2, ⟨hk.1.1.2, hk.2⟩⟩⟩⟩⟩)⟩, ⟨by (with_reducible repeat (first | apply Kd.N_alloc | apply Kd.N_drewN | apply Kd.N_drew)); exact Kd.N_mono HO275.out (fun _ hk => ⟨hk.1.1.1.1.1.1.2, ⟨hk.1.1.1.1.1.2, ⟨hk.1.1.1.1.2, ⟨hk.1.1.1.2, ⟨hk.1.1.2, hk.2⟩⟩⟩⟩⟩)⟩, ⟨by (with_reducible repeat (first | apply Kd.N_alloc | apply Kd.N_drewN | apply Kd.N_drew)); exact Kd.N_mono HO278.out (fun _ hk => ⟨hk.1.1.1.1.1.2.1, ⟨hk.1.1.1.1.1.2.2, ⟨hk.1.1.1.1.2, ⟨hk.1.1.1.2, ⟨hk.1.1.2, hk.2⟩⟩⟩⟩⟩)⟩, ⟨by (with_reducible repeat (first | apply Kd.N_alloc | apply Kd.N_drewN | apply Kd.N_drew)); exact Kd.N_mono HO282.out (fun _ hk => ⟨hk.1.1.1.1.2.1, ⟨hk.1.1.1.1.2.2.1, ⟨hk.1.1.1.1.2.2.2, ⟨hk.1.1.1.2, ⟨hk.1.1.2, hk.2⟩⟩⟩⟩⟩)⟩, ⟨by (with_reducible repeat (first | apply Kd.N_alloc | apply Kd.N_drewN | apply Kd.N_drew)); exact Kd.N_mono HO286.out (fun _ hk => ⟨hk.1.1.1.2.1, ⟨hk.1.1.1.2.2.1, ⟨hk.1.1.1.2.2.2.1, ⟨hk.1.1.1.2.2.2.2, ⟨hk.1.1.2, hk.2⟩⟩⟩⟩⟩)⟩, ⟨by (with_reducible repeat (first | apply Kd.N_alloc | apply Kd.N_drewN | apply Kd.N_drew)); exact Kd.N_mono HO291.out (fun _ hk => ⟨hk.1.1.2.1, ⟨hk.1.1.2.2.1, ⟨hk.1.1.2.2.2.1, ⟨hk.1.1.2.2.2.2.1, ⟨hk.1.1.2.2.2.2.2, hk.2⟩⟩⟩⟩⟩)⟩, ⟨by (with_reducible repeat (first | apply Kd.N_alloc | apply Kd.N_drewN | apply Kd.N_drew)); exact Kd.N_mono HO298.out (fun _ hk => ⟨hk.2.1, ⟨hk.2.2.1, ⟨hk.2.2.2.1, ⟨hk.2.2.2.2.1, ⟨hk.2.2.2.2.2.1, hk.2.2.2.2.2.2.1⟩⟩⟩⟩⟩)⟩, ⟨by repeat (first | (with_reducible first | exact HB.out | apply below_alloc | apply pw_below_drewN | apply below_drew1) | exact HB.out)⟩⟩
  case rest =>
    clear HC12
    try clear c1
    try clear c2
    try clear p2
    try clear c3
    try clear c4
    try clear c10
    try clear c11
    try clear c14
    try clear c19
    try clear c20
    try clear c27
    try clear c27b0
    try clear c27b1
    try clear c28
    try clear c28b0
    try clear c28b1
    try clear c29
    try clear c29b0
    try clear c29b1
    try clear c30
    try clear c30b0
    try clear c30b1
    obtain ⟨kq, x74_11, rfl, HA, HJ11, HO_6, HO_7, HO_8, HO_10, HO_12, HO_14, HO_16, HB⟩ := hcut
    cases kq with
    | zero => exact absurd HA.out (by simp [dioramalaw36_DiffLeads.j0])
    | succ kj11 =>
      have H := HA.out; clear HA; simp only [dioramalaw36_DiffLeads.j0] at H
      by_cases c31 : x74_11 = true
      · subst c31
        have H1 : (some false) = some r := by rw [if_pos rfl] at H; exact H
        clear H; have H := H1; clear H1; obtain rfl := Option.some.inj H; go_wp2; go_ret; exact ⟨by first | rfl | (simp [errW_none, errW_some] <;> rfl) | (simp [*, errW_none, errW_some] <;> rfl), by repeat (first | (with_reducible first | exact HB.out | apply below_alloc | apply pw_below_drewN | apply below_drew1) | exact HB.out)⟩
      · replace c31 := Bool.eq_false_iff.mpr c31
        subst c31
        have H1 : (if (t276.length : Int) = (t280.length : Int) then (if (t284.length : Int) = 0 then ((dioramaref36_SameWorld.f kj11 t288 t273).bind fun t299 => (if t299 = true then ((dioramaref36_SameWorld.f kj11 t295 t270).bind fun t300 => (if t300 = true then ((dioramalaw36_lives.f).bind fun t301 => (some t301)) else (some false))) else (some false))) else (some false)) else (some false)) = some r := by rw [if_neg (show ¬ (false = true) by decide)] at H; exact H
        clear H; have H := H1; clear H1
        by_cases c32 : (t276.length : Int) = (t280.length : Int)
        · rw [if_pos c32] at H
          have c32b0 : ((t276.length : Int) == (t280.length : Int)) = true := beq_iff_eq.mpr c32; have c32b1 : ((t276.length : Int) != (t280.length : Int)) = false := bne_eq_false_iff_eq.mpr c32
          have c32b2 : (t276.length == t280.length) = true := by first | simpa using c32 | (simp at c32 ⊢; omega)
          clear c32
          by_cases c33 : (t284.length : Int) = 0
          · rw [if_pos c33] at H
            have c33b0 : ((t284.length : Int) == 0) = true := beq_iff_eq.mpr c33; have c33b1 : ((t284.length : Int) != 0) = false := bne_eq_false_iff_eq.mpr c33; clear c33; replace H := Option.bind_eq_some_iff.mp H; obtain ⟨t299, A340, H⟩ := H; replace H : (if t299 = true then ((dioramaref36_SameWorld.f kj11 t295 t270).bind fun t300 => (if t300 = true then ((dioramalaw36_lives.f).bind fun t301 => (some t301)) else (some false))) else (some false)) = some r := H; have A34 := Aside0.mk A340; clear A340
            by_cases c35 : t299 = true
            · subst c35
              have H1 : ((dioramaref36_SameWorld.f kj11 t295 t270).bind fun t300 => (if t300 = true then ((dioramalaw36_lives.f).bind fun t301 => (some t301)) else (some false))) = some r := by rw [if_pos rfl] at H; exact H
              clear H; have H := H1; clear H1; replace H := Option.bind_eq_some_iff.mp H; obtain ⟨t300, A360, H⟩ := H; replace H : (if t300 = true then ((dioramalaw36_lives.f).bind fun t301 => (some t301)) else (some false)) = some r := H; have A36 := Aside0.mk A360; clear A360
              by_cases c37 : t300 = true
              · subst c37
                have H1 : ((dioramalaw36_lives.f).bind fun t301 => (some t301)) = some r := by rw [if_pos rfl] at H; exact H
                clear H; have H := H1; clear H1; replace H := Option.bind_eq_some_iff.mp H; obtain ⟨t301, A380, H⟩ := H; replace H : (some t301) = some r := H; have A38 := Aside0.mk A380; clear A380; obtain rfl := Option.some.inj H; obtain ⟨Ao39, co39, eo39⟩ := Kd.N_slice HO_10.out; subst eo39; obtain ⟨Ao40, co40, eo40⟩ := Kd.N_slice HO_12.out; subst eo40; obtain ⟨Ao41, co41, eo41⟩ := Kd.N_slice HO_14.out; subst eo41
                go_wp2_with (first | (go_at_call 21; (with_reducible refine (dioramaref36_SameWorld.calls kj11 _ _ t288 _ _ t273 true _ ?side1 ?side2 ?side3 ?side4 A34.out).mono ?_); (case side1 => repeat (first | exact (Kd.N_reads' HO_14.out).2.2 | (with_reducible refine Kd.C_alloc ?_ _) | (with_reducible refine Kd.C_drewN ?_ _) | (with_reducible refine Kd.C_drew ?_))); (case side2 => exact (Kd.N_reads' HO_14.out).2.1); (case side3 => repeat (first | exact (Kd.N_reads' HO_7.out).2.2 | (with_reducible refine Kd.C_alloc ?_ _) | (with_reducible refine Kd.C_drewN ?_ _) | (with_reducible refine Kd.C_drew ?_))); (case side4 => exact (Kd.N_reads' HO_7.out).2.1); rintro e w' ⟨rfl, ⟨nd, rfl⟩⟩; obtain ⟨Ao42, co42, eo42⟩ := Kd.N_slice HO_16.out; subst eo42) | (go_at_call 21; (with_reducible refine (dioramaref36_SameWorld.calls kj11 _ _ t295 _ _ t270 true _ ?side1 ?side2 ?side3 ?side4 A36.out).mono ?_); (case side1 => repeat (first | exact (Kd.N_reads' HO_16.out).2.2 | (with_reducible refine Kd.C_alloc ?_ _) | (with_reducible refine Kd.C_drewN ?_ _) | (with_reducible refine Kd.C_drew ?_))); (case side2 => exact (Kd.N_reads' HO_16.out).2.1); (case side3 => repeat (first | exact (Kd.N_reads' HO_6.out).2.2 | (with_reducible refine Kd.C_alloc ?_ _) | (with_reducible refine Kd.C_drewN ?_ _) | (with_reducible refine Kd.C_drew ?_))); (case side4 => exact (Kd.N_reads' HO_6.out).2.1); rintro e w' ⟨rfl, ⟨nd, rfl⟩⟩) | (go_at_call 18; (with_reducible refine (dioramalaw36_lives.calls  t301 _ A38.out).mono ?_); rintro e w43 ⟨rfl, hb⟩; have n0_ := Aside0.mk (Kd.N_below (by (with_reducible repeat (first | apply Kd.N_alloc | apply Kd.N_drewN | apply Kd.N_drew)); exact HO_6.out) hb); have n1_ := Aside0.mk (Kd.N_below (by (with_reducible repeat (first | apply Kd.N_alloc | apply Kd.N_drewN | apply Kd.N_drew)); exact HO_7.out) hb); have n2_ := Aside0.mk (Kd.N_below (by (with_reducible repeat (first | apply Kd.N_alloc | apply Kd.N_drewN | apply Kd.N_drew)); exact HO_8.out) hb); have n3_ := Aside0.mk (Kd.N_below (by (with_reducible repeat (first | apply Kd.N_alloc | apply Kd.N_drewN | apply Kd.N_drew)); exact HO_10.out) hb); have n4_ := Aside0.mk (Kd.N_below (by (with_reducible repeat (first | apply Kd.N_alloc | apply Kd.N_drewN | apply Kd.N_drew)); exact HO_12.out) hb); have n5_ := Aside0.mk (Kd.N_below (by (with_reducible repeat (first | apply Kd.N_alloc | apply Kd.N_drewN | apply Kd.N_drew)); exact HO_14.out) hb); have n6_ := Aside0.mk (Kd.N_below (by (with_reducible repeat (first | apply Kd.N_alloc | apply Kd.N_drewN | apply Kd.N_drew)); exact HO_16.out) hb); have n7_ := Aside0.mk (below_step (by repeat (first | (with_reducible first | exact HB.out | apply below_alloc | apply pw_below_drewN | apply below_drew1) | exact HB.out)) hb); clear HO_6; clear HO_7; clear HO_8; clear HO_10; clear HO_12; clear HO_14; clear HO_16; clear HB; have HO_6 := n0_; have HO_7 := n1_; have HO_8 := n2_; have HO_10 := n3_; have HO_12 := n4_; have HO_14 := n5_; have HO_16 := n6_; have HB := n7_; clear n0_ n1_ n2_ n3_ n4_ n5_ n6_ n7_; (try clear hb); (try clear hb2); (try clear hk); (try clear hi)))
                go_ret; exact ⟨by first | rfl | (simp [errW_none, errW_some] <;> rfl) | (simp [*, errW_none, errW_some] <;> rfl), by repeat (first | (with_reducible first | exact HB.out | apply below_alloc | apply pw_below_drewN | apply below_drew1) | exact HB.out)⟩
              · replace c37 := Bool.eq_false_iff.mpr c37
                subst c37
                have H1 : (some false) = some r := by rw [if_neg (show ¬ (false = true) by decide)] at H; exact H
                clear H; have H := H1; clear H1; obtain rfl := Option.some.inj H; obtain ⟨Ao44, co44, eo44⟩ := Kd.N_slice HO_10.out; subst eo44; obtain ⟨Ao45, co45, eo45⟩ := Kd.N_slice HO_12.out; subst eo45; obtain ⟨Ao46, co46, eo46⟩ := Kd.N_slice HO_14.out; subst eo46
                go_wp2_with (first | (go_at_call 21; (with_reducible refine (dioramaref36_SameWorld.calls kj11 _ _ t288 _ _ t273 true _ ?side1 ?side2 ?side3 ?side4 A34.out).mono ?_); (case side1 => repeat (first | exact (Kd.N_reads' HO_14.out).2.2 | (with_reducible refine Kd.C_alloc ?_ _) | (with_reducible refine Kd.C_drewN ?_ _) | (with_reducible refine Kd.C_drew ?_))); (case side2 => exact (Kd.N_reads' HO_14.out).2.1); (case side3 => repeat (first | exact (Kd.N_reads' HO_7.out).2.2 | (with_reducible refine Kd.C_alloc ?_ _) | (with_reducible refine Kd.C_drewN ?_ _) | (with_reducible refine Kd.C_drew ?_))); (case side4 => exact (Kd.N_reads' HO_7.out).2.1); rintro e w' ⟨rfl, ⟨nd, rfl⟩⟩; obtain ⟨Ao47, co47, eo47⟩ := Kd.N_slice HO_16.out; subst eo47) | (go_at_call 21; (with_reducible refine (dioramaref36_SameWorld.calls kj11 _ _ t295 _ _ t270 false _ ?side1 ?side2 ?side3 ?side4 A36.out).mono ?_); (case side1 => repeat (first | exact (Kd.N_reads' HO_16.out).2.2 | (with_reducible refine Kd.C_alloc ?_ _) | (with_reducible refine Kd.C_drewN ?_ _) | (with_reducible refine Kd.C_drew ?_))); (case side2 => exact (Kd.N_reads' HO_16.out).2.1); (case side3 => repeat (first | exact (Kd.N_reads' HO_6.out).2.2 | (with_reducible refine Kd.C_alloc ?_ _) | (with_reducible refine Kd.C_drewN ?_ _) | (with_reducible refine Kd.C_drew ?_))); (case side4 => exact (Kd.N_reads' HO_6.out).2.1); rintro e w' ⟨rfl, ⟨nd, rfl⟩⟩))
                go_ret; exact ⟨by first | rfl | (simp [errW_none, errW_some] <;> rfl) | (simp [*, errW_none, errW_some] <;> rfl), by repeat (first | (with_reducible first | exact HB.out | apply below_alloc | apply pw_below_drewN | apply below_drew1) | exact HB.out)⟩
            · replace c35 := Bool.eq_false_iff.mpr c35
              subst c35
              have H1 : (some false) = some r := by rw [if_neg (show ¬ (false = true) by decide)] at H; exact H
              clear H; have H := H1; clear H1; obtain rfl := Option.some.inj H; obtain ⟨Ao48, co48, eo48⟩ := Kd.N_slice HO_10.out; subst eo48; obtain ⟨Ao49, co49, eo49⟩ := Kd.N_slice HO_12.out; subst eo49; obtain ⟨Ao50, co50, eo50⟩ := Kd.N_slice HO_14.out; subst eo50
              go_wp2_with (first | (go_at_call 21; (with_reducible refine (dioramaref36_SameWorld.calls kj11 _ _ t288 _ _ t273 false _ ?side1 ?side2 ?side3 ?side4 A34.out).mono ?_); (case side1 => repeat (first | exact (Kd.N_reads' HO_14.out).2.2 | (with_reducible refine Kd.C_alloc ?_ _) | (with_reducible refine Kd.C_drewN ?_ _) | (with_reducible refine Kd.C_drew ?_))); (case side2 => exact (Kd.N_reads' HO_14.out).2.1); (case side3 => repeat (first | exact (Kd.N_reads' HO_7.out).2.2 | (with_reducible refine Kd.C_alloc ?_ _) | (with_reducible refine Kd.C_drewN ?_ _) | (with_reducible refine Kd.C_drew ?_))); (case side4 => exact (Kd.N_reads' HO_7.out).2.1); rintro e w' ⟨rfl, ⟨nd, rfl⟩⟩))
              go_ret; exact ⟨by first | rfl | (simp [errW_none, errW_some] <;> rfl) | (simp [*, errW_none, errW_some] <;> rfl), by repeat (first | (with_reducible first | exact HB.out | apply below_alloc | apply pw_below_drewN | apply below_drew1) | exact HB.out)⟩
          · rw [if_neg c33] at H
            have c33b0 : ((t284.length : Int) == 0) = false := beq_eq_false_iff_ne.mpr c33; have c33b1 : ((t284.length : Int) != 0) = true := bne_iff_ne.mpr c33
            have c33b2 : ¬ (t284 = []) := fun h_ => c33 (by rw [h_]; rfl)
            obtain rfl := Option.some.inj H; obtain ⟨Ao51, co51, eo51⟩ := Kd.N_slice HO_10.out; subst eo51; obtain ⟨Ao52, co52, eo52⟩ := Kd.N_slice HO_12.out; subst eo52; go_wp2; go_ret; exact ⟨by first | rfl | (simp [errW_none, errW_some] <;> rfl) | (simp [*, errW_none, errW_some] <;> rfl), by repeat (first | (with_reducible first | exact HB.out | apply below_alloc | apply pw_below_drewN | apply below_drew1) | exact HB.out)⟩
        · rw [if_neg c32] at H
          have c32b0 : ((t276.length : Int) == (t280.length : Int)) = false := beq_eq_false_iff_ne.mpr c32; have c32b1 : ((t276.length : Int) != (t280.length : Int)) = true := bne_iff_ne.mpr c32
          have c32b2 : (t276.length == t280.length) = false := by first | simpa using c32 | (simp at c32 ⊢; omega)
          obtain rfl := Option.some.inj H; obtain ⟨Ao53, co53, eo53⟩ := Kd.N_slice HO_10.out; subst eo53; go_wp2; go_ret; exact ⟨by first | rfl | (simp [errW_none, errW_some] <;> rfl) | (simp [*, errW_none, errW_some] <;> rfl), by repeat (first | (with_reducible first | exact HB.out | apply below_alloc | apply pw_below_drewN | apply below_drew1) | exact HB.out)⟩
def dioramalaw36_DiffLeads.Pure : Prop := ∀ (l0 : List Int) (l1 : List Int), l0.length ≤ maxLen → l0.length * 8 ≤ 140737488351232 → (∀ x ∈ l0, (Lit.int .i64 x).wf = true) → l1.length ≤ maxLen → l1.length * 8 ≤ 140737488351232 → (∀ x ∈ l1, (Lit.int .i64 x).wf = true) → ∃ k, dioramalaw36_DiffLeads.f k l0 l1 = some true
theorem dioramalaw36_DiffLeads.walk (P : dioramalaw36_DiffLeads.Pure) (a0 : Option Addr) (len0 cap0 : Nat) (z0 : List Int) (a1 : Option Addr) (len1 cap1 : Nat) (z1 : List Int) (w : World) (w0 : (a0 = none ∧ len0 = 0 ∧ cap0 = 0 ∧ z0 = []) ∨ ∃ x, a0 = some x ∧ len0 ≤ cap0 ∧ cap0 ≤ maxLen ∧ z0.length = cap0 ∧ (∀ i, i < z0.length → w.cell? (x.add i) = some (.int .i64 (z0.getD i 0))) ∧ ∀ n ∈ z0, (Lit.int .i64 n).wf = true) (y0 : len0 * 8 ≤ 140737488351232) (w1 : (a1 = none ∧ len1 = 0 ∧ cap1 = 0 ∧ z1 = []) ∨ ∃ x, a1 = some x ∧ len1 ≤ cap1 ∧ cap1 ≤ maxLen ∧ z1.length = cap1 ∧ (∀ i, i < z1.length → w.cell? (x.add i) = some (.int .i64 (z1.getD i 0))) ∧ ∀ n ∈ z1, (Lit.int .i64 n).wf = true) (y1 : len1 * 8 ≤ 140737488351232) :
    Calls Try.prog 4 #[.slice a0 len0 cap0, .slice a1 len1 cap1] w fun e w' => e = .returned (.bool true) ∧ Below w.heap.size w w' := by
  obtain ⟨l0, rfl, hr0, hm0, hw0, hc0⟩ := ReadsInt.ofRowC w0; obtain ⟨l1, rfl, hr1, hm1, hw1, hc1⟩ := ReadsInt.ofRowC w1; obtain ⟨k, h⟩ := P l0 l1 hm0 y0 hw0 hm1 y1 hw1; refine (dioramalaw36_DiffLeads.calls k _ _ l0 _ _ l1 true w (Kd.C_of_reads (d := (0 : Int)) (h1 := fun _ => rfl) hr0) hc0 (Kd.C_of_reads (d := (0 : Int)) (h1 := fun _ => rfl) hr1) hc1 h).mono ?_; rintro e w' ⟨rfl, hd⟩; exact ⟨rfl, hd⟩
end Go.Proofs.Ytcgpemefmakjiaa.PX
namespace Go.Proofs.Ytcgpemefmakjiaa.PX
open Go.RowKit Go.Proofs.YtcgpemefmakjiaaW.PrintWords Go.Proofs.YtcgpemefmakjiaaW.PrintLast Go.Proofs.YtcgpemefmakjiaaW.PrintMore
attribute [local go_sem] max2_int min2_int max_two min_two max_three min_three max_four min_four   -- for this text's walks alone
set_option linter.unusedVariables false
set_option linter.unusedSimpArgs false
end Go.Proofs.Ytcgpemefmakjiaa.PX
namespace Go.Proofs.Ytcgpemefmakjiaa.PX
open Go.RowKit Go.Proofs.YtcgpemefmakjiaaW.PrintWords Go.Proofs.YtcgpemefmakjiaaW.PrintLast Go.Proofs.YtcgpemefmakjiaaW.PrintMore
attribute [local go_sem] max2_int min2_int max_two min_two max_three min_three max_four min_four   -- for this text's walks alone
set_option linter.unusedVariables false
set_option linter.unusedSimpArgs false
end Go.Proofs.Ytcgpemefmakjiaa.PX
namespace Go.Proofs.Ytcgpemefmakjiaa.PX
open Go.RowKit Go.Proofs.YtcgpemefmakjiaaW.PrintWords Go.Proofs.YtcgpemefmakjiaaW.PrintLast Go.Proofs.YtcgpemefmakjiaaW.PrintMore
attribute [local go_sem] max2_int min2_int max_two min_two max_three min_three max_four min_four   -- for this text's walks alone
set_option linter.unusedVariables false
set_option linter.unusedSimpArgs false
end Go.Proofs.Ytcgpemefmakjiaa.PX
namespace Go.Proofs.Ytcgpemefmakjiaa.PX
open Go.RowKit Go.Proofs.YtcgpemefmakjiaaW.PrintWords Go.Proofs.YtcgpemefmakjiaaW.PrintLast Go.Proofs.YtcgpemefmakjiaaW.PrintMore
set_option linter.unusedVariables false
def EvP {α : Type} (F : Nat → Option α) (P : α → Prop) : Prop := ∃ r, P r ∧ ∃ K, ∀ k, K ≤ k → F k = some r
abbrev Ev {α : Type} (F : Nat → Option α) (r : α) : Prop := EvP F (fun x => x = r)
section
variable {α β : Type} {F G : Nat → Option α} {P Q : α → Prop} {r : α}
theorem EvP.const (h : P r) : EvP (fun _ => some r) P := ⟨r, h, 0, fun _ _ => rfl⟩
theorem EvP.step (h : ∀ k, F (k + 1) = G k) (hg : EvP G P) : EvP F P := by
  obtain ⟨r, hr, K, hK⟩ := hg; refine ⟨r, hr, K + 1, fun k hk => ?_⟩; obtain ⟨j, rfl⟩ : ∃ j, k = j + 1 := ⟨k - 1, by omega⟩; rw [h]; exact hK j (by omega)
theorem EvP.bind {G : Nat → α → Option β} {Q : β → Prop} (hf : EvP F P) (hg : ∀ a, P a → EvP (fun k => G k a) Q) : EvP (fun k => (F k).bind (G k)) Q := by
  obtain ⟨a, ha, K, hK⟩ := hf; obtain ⟨b, hb, K', hK'⟩ := hg a ha; refine ⟨b, hb, max K K', fun k hk => ?_⟩; simp only [hK k (by omega), Option.bind_some]; exact hK' k (by omega)
theorem Ev.bind {G : Nat → α → Option β} {Q : β → Prop} (hf : Ev F r) (hg : EvP (fun k => G k r) Q) : EvP (fun k => (F k).bind (G k)) Q := EvP.bind hf (fun a ha => ha ▸ hg)
theorem EvP.known {o : Option α} {G : Nat → α → Option β} {Q : β → Prop} (ho : o = some r) (hg : EvP (fun k => G k r) Q) : EvP (fun k => o.bind (G k)) Q := by
  subst ho; exact hg
theorem EvP.pos {c : Prop} [Decidable c] (hc : c) (h : EvP F P) : EvP (fun k => if c then F k else G k) P := by simp only [if_pos hc]; exact h
theorem EvP.neg {c : Prop} [Decidable c] (hc : ¬c) (h : EvP G P) : EvP (fun k => if c then F k else G k) P := by simp only [if_neg hc]; exact h
theorem EvP.mono (h : EvP F P) (hp : ∀ r, P r → Q r) : EvP F Q := by
  obtain ⟨r, hr, hK⟩ := h; exact ⟨r, hp r hr, hK⟩
theorem Ev.at_ (h : Ev F r) : ∃ k, F k = some r := by
  obtain ⟨_, rfl, K, hK⟩ := h; exact ⟨K, hK K (Nat.le_refl _)⟩
end
theorem w64 {x : Int} (h0 : -9223372036854775808 ≤ x) (h1 : x ≤ 9223372036854775807) : wrap64 x = x := wrap64_id h0 h1
theorem w64s (i : Nat) (h : i < 9223372036854775807) : wrap64 ((i : Int) + 1) = ((i + 1 : Nat) : Int) := by rw [w64 (by omega) (by omega)]; omega
theorem sameInts_l0 (x y : List Int) (hl : x.length = y.length) (hx : x.length ≤ 4611686018427387904) : ∀ n i : Nat, i + n = x.length → Ev (fun k => dioramaref01_SameInts.l0 k x y i) (decide (x.drop i = y.drop i))
  | 0, i, h => by
    refine EvP.step (fun k => by rw [dioramaref01_SameInts.l0]) ?_; refine EvP.neg (by omega) ?_; rw [List.drop_eq_nil_of_le (by omega), List.drop_eq_nil_of_le (by omega)]; exact EvP.const (by simp)
  | n + 1, i, h => by
    have ih := sameInts_l0 x y hl hx n (i + 1) (by omega); refine EvP.step (fun k => by rw [dioramaref01_SameInts.l0]) ?_; refine EvP.pos (by omega) (EvP.pos (by omega) (EvP.pos (by omega) ?_)); rw [List.drop_eq_getElem_cons (show i < x.length by omega), List.drop_eq_getElem_cons (show i < y.length by omega)]; rw [rd_nat x i (by omega), rd_nat y i (by omega), w64s i (by omega)]
    by_cases he : x[i] = y[i]
    (· refine EvP.pos he (EvP.mono ih ?_); rintro r rfl; simp only [he, List.cons.injEq, true_and]); (· refine EvP.neg he (EvP.const ?_); simp only [List.cons.injEq, he, false_and, decide_false])
theorem sameInts_ev (x y : List Int) (hx : x.length ≤ 4611686018427387904) : Ev (fun k => dioramaref01_SameInts.f k x y) (decide (x = y)) := by
  unfold dioramaref01_SameInts.f
  by_cases hl : x.length = y.length
  · refine EvP.pos (by omega) ?_
    have := sameInts_l0 x y hl hx x.length 0 (by omega)
    simpa using this
  · refine EvP.neg (by omega) (EvP.const ?_)
    have : x ≠ y := fun e => hl (by rw [e])
    simp [this]
theorem rd_L1_nat (xs : List (List Int)) (i : Nat) (h : i < xs.length) : rd_L1 xs i = xs[i] := by simp [rd_L1, List.getD_eq_getElem?_getD, h]
theorem rd_L2_nat (xs : List (List (List Int))) (i : Nat) (h : i < xs.length) : rd_L2 xs i = xs[i] := by simp [rd_L2, List.getD_eq_getElem?_getD, h]
theorem badLen_false {n n0 : Nat} (h : n = n0) (h1 : 1 ≤ n) (h2 : n ≤ 10) : badLen n n0 = false := by
  subst h
  simp [badLen]
  omega
end Go.Proofs.Ytcgpemefmakjiaa.PX
namespace Go.Proofs.Ytcgpemefmakjiaa.PX
open Go.RowKit Go.Proofs.YtcgpemefmakjiaaW.PrintWords Go.Proofs.YtcgpemefmakjiaaW.PrintLast Go.Proofs.YtcgpemefmakjiaaW.PrintMore
set_option linter.unusedVariables false
section
variable (kind : Int) (a b : List (List Int)) (s : Nat) {R : List S76 → Prop}
end
theorem chgs_len (kind : Int) (a b : List (List Int)) (m : Nat) : (chgs kind a b m).length = setsN a b m + (a.length - m) + (b.length - m) := by
  unfold chgs setsN; rw [List.length_append, List.length_append, setAll_len kind 0]
  simp [takeL, addL]
section
variable (l0 l1 : List (List (List Int))) {R : List S76 × Int → Prop}
end
theorem shaped_wide10 {l : List (List (List Int))} (h : shapedB l = true) (k i : Int) : (rd_L1 (rd_L2 l k) i).length ≤ 10 := by
  by_cases hk : k.toNat < l.length
  · have hm : rd_L2 l k ∈ l := by
      simp only [rd_L2, List.getD_eq_getElem?_getD, List.getElem?_eq_getElem hk, Option.getD_some]; exact List.getElem_mem hk
    by_cases hi : i.toNat < (rd_L2 l k).length
    · have hm2 : rd_L1 (rd_L2 l k) i ∈ rd_L2 l k := by
        simp only [rd_L1, List.getD_eq_getElem?_getD, List.getElem?_eq_getElem hi, Option.getD_some]; exact List.getElem_mem hi
      unfold shapedB at h; simp only [Bool.and_eq_true, List.all_eq_true] at h; have h1 := h.1.1 _ hm; simp only [Bool.not_eq_true', anyBad, List.any_eq_false] at h1; have h2 := h1 _ hm2
      simp [badLen] at h2
      omega
    · have e : rd_L1 (rd_L2 l k) i = [] := by simp only [rd_L1, List.getD_eq_getElem?_getD, List.getElem?_eq_none (Nat.not_lt.1 hi), Option.getD_none]
      rw [e]
      simp
  · have e : rd_L2 l k = [] := by simp only [rd_L2, List.getD_eq_getElem?_getD, List.getElem?_eq_none (Nat.not_lt.1 hk), Option.getD_none]
    have e2 : rd_L1 (rd_L2 l k) i = [] := by rw [e]; rfl
    rw [e2]
    simp
theorem chgs_wide {kind : Int} {a b : List (List Int)} {m : Nat} {c : S61} (h : c ∈ chgs kind a b m) : c.f5 = [] ∨ (∃ i : Int, c.f5 = rd_L1 a i) ∨ ∃ i : Int, c.f5 = rd_L1 b i := by
  unfold chgs at h; rw [List.mem_append, List.mem_append] at h
  rcases h with (h | h) | h
  · unfold setAll setRow at h
    rw [List.mem_flatMap] at h; obtain ⟨i, _, h⟩ := h; rw [List.mem_flatMap] at h; obtain ⟨j, _, h⟩ := h; unfold setAt at h
    split at h
    · cases h
    (· rw [List.mem_singleton.1 h]; exact .inl rfl)
  (· unfold takeL at h; rw [List.mem_map] at h; obtain ⟨q, _, rfl⟩ := h; exact .inr (.inl ⟨_, rfl⟩)); (· unfold addL at h; rw [List.mem_map] at h; obtain ⟨q, _, rfl⟩ := h; exact .inr (.inr ⟨_, rfl⟩))
theorem diffR_wide (l0 l1 : List (List (List Int))) : ∀ c ∈ (diffR l0 l1).1, c.f5.length ≤ 10 := by
  unfold diffR
  split
  · next h =>
    simp only [Bool.and_eq_true, decide_eq_true_eq] at h; intro c hc; simp only [diffL, List.mem_flatMap] at hc; obtain ⟨k, _, hc⟩ := hc
    rcases chgs_wide hc with e | ⟨i, e⟩ | ⟨i, e⟩
    (· rw [e]; simp); (· rw [e]; exact shaped_wide10 h.1.1.1 _ _); (· rw [e]; exact shaped_wide10 h.1.1.2 _ _)
  · intro c hc
    cases hc
end Go.Proofs.Ytcgpemefmakjiaa.PX
namespace Go.Proofs.Ytcgpemefmakjiaa.PX
open Go.RowKit Go.Proofs.YtcgpemefmakjiaaW.PrintWords Go.Proofs.YtcgpemefmakjiaaW.PrintLast Go.Proofs.YtcgpemefmakjiaaW.PrintMore
set_option linter.unusedVariables false
section
variable {W W1 w1 : World} {base : Nat} {v3 v5 v1 vi : Value} {l3 : Wd} {q : List (List Int)} {r : List Int}
end
end Go.Proofs.Ytcgpemefmakjiaa.PX
namespace Go.Proofs.Ytcgpemefmakjiaa.PX
open Go.RowKit Go.Proofs.YtcgpemefmakjiaaW.PrintWords Go.Proofs.YtcgpemefmakjiaaW.PrintLast Go.Proofs.YtcgpemefmakjiaaW.PrintMore
set_option linter.unusedVariables false
set_option linter.unusedSimpArgs false
end Go.Proofs.Ytcgpemefmakjiaa.PX
namespace Go.Proofs.Ytcgpemefmakjiaa.PX
open Go.RowKit Go.Proofs.YtcgpemefmakjiaaW.PrintWords Go.Proofs.YtcgpemefmakjiaaW.PrintLast Go.Proofs.YtcgpemefmakjiaaW.PrintMore
set_option linter.unusedVariables false
def in64 (x : Int) : Bool := decide (-9223372036854775808 ≤ x) && decide (x ≤ 9223372036854775807)
theorem in64_iff {x : Int} : in64 x = true ↔ -9223372036854775808 ≤ x ∧ x ≤ 9223372036854775807 := by simp [in64]
def arv (x n : Int) : Int := (dioramaref01_Around.f x n).getD 0
theorem arv_spec (x n : Int) (hx : in64 x = true) : dioramaref01_Around.f x n = some (arv x n) ∧ 0 ≤ arv x n ∧ (0 < n → arv x n < n) := by
  rw [in64_iff] at hx; unfold arv dioramaref01_Around.f
  by_cases h0 : x < 0
  · rw [if_pos h0]
    by_cases h1 : n < 1
    (· rw [if_pos h1]; exact ⟨rfl, Int.le_refl _, fun h => by omega⟩); (· rw [if_neg h1, if_neg (by omega), wrap64_id (x := x + 1) (by omega) (by omega), wrap64_id (by omega) (by omega)]; refine ⟨rfl, Int.tmod_nonneg _ (by omega), fun h => Int.tmod_lt_of_pos _ h⟩)
  · rw [if_neg h0]
    by_cases h1 : n < 1
    (· rw [if_pos h1]; exact ⟨rfl, Int.le_refl _, fun h => by omega⟩); (· rw [if_neg h1, if_neg (by omega)]; refine ⟨rfl, Int.tmod_nonneg _ (by omega), fun h => Int.tmod_lt_of_pos _ h⟩)
def atv (l : List Int) (i n : Int) : Int := (dioramaref01_At.f l i n).getD 0
theorem atv_spec (l : List Int) (i n : Int) (hl : l.all in64 = true) : dioramaref01_At.f l i n = some (atv l i n) ∧ 0 ≤ atv l i n ∧ (0 < n → atv l i n < n) := by
  unfold atv dioramaref01_At.f
  by_cases h0 : i < 0
  (· rw [if_pos h0]; exact ⟨rfl, Int.le_refl _, fun h => h⟩); rw [if_neg h0]
  by_cases h1 : i ≥ (l.length : Int)
  (· rw [if_pos h1]; exact ⟨rfl, Int.le_refl _, fun h => h⟩); rw [if_neg h1, if_pos (by omega), if_pos (by omega)]
  have hx : in64 (rd l i) = true := by
    rw [List.all_eq_true] at hl; refine hl _ ?_; simp only [rd, List.getD_eq_getElem?_getD]; rw [List.getElem?_eq_getElem (show i.toNat < l.length by omega)]; exact List.getElem_mem _
  obtain ⟨e, h2, h3⟩ := arv_spec (rd l i) n hx; rw [e]; exact ⟨rfl, h2, h3⟩
end Go.Proofs.Ytcgpemefmakjiaa.PX
namespace Go.Proofs.Ytcgpemefmakjiaa.PX
open Go.RowKit Go.Proofs.YtcgpemefmakjiaaW.PrintWords Go.Proofs.YtcgpemefmakjiaaW.PrintLast Go.Proofs.YtcgpemefmakjiaaW.PrintMore
set_option linter.unusedVariables false
section
variable {W W1 w1 : World} {base k n c : Nat} {v vi : Value} {l : Wd} {rows : List (List Int)} {r : List Int} {f1 : Nat → Nat} {f2 : Nat → Nat × Nat}
end
end Go.Proofs.Ytcgpemefmakjiaa.PX
namespace Go.Proofs.Ytcgpemefmakjiaa.PX
open Go.RowKit Go.Proofs.YtcgpemefmakjiaaW.PrintWords Go.Proofs.YtcgpemefmakjiaaW.PrintLast Go.Proofs.YtcgpemefmakjiaaW.PrintMore
set_option linter.unusedVariables false
theorem wf_in64 {x : Int} (h : (Lit.int .i64 x).wf = true) : in64 x = true := by
  simp only [Lit.wf, IntKind.min, IntKind.max, IntKind.signed, IntKind.bits, Bool.and_eq_true, decide_eq_true_eq, if_true] at h; rw [in64_iff]; omega
theorem wf_all {l : List Int} (h : ∀ x ∈ l, (Lit.int .i64 x).wf = true) : l.all in64 = true := by
  rw [List.all_eq_true]
  exact fun x hx => wf_in64 (h x hx)
def ShapeOK (sh : List Int) : Prop := sh.length ≤ 3 ∧ ∀ j : Nat, j < sh.length → 1 ≤ rd sh j ∧ rd sh j ≤ 4
theorem ShapeOK.snoc {acc : List Int} {t : Int} (h : ShapeOK acc) (hl : acc.length ≤ 2) (h0 : 0 ≤ t) (h4 : t < 4) : ShapeOK (acc ++ [1 + t]) := by
  refine ⟨by rw [List.length_append, List.length_singleton]; omega, fun j hj => ?_⟩
  by_cases hja : j < acc.length
  · have e : rd (acc ++ [1 + t]) j = rd acc j := by simp [rd, List.getD_eq_getElem?_getD, List.getElem?_append_left hja]
    rw [e]; exact h.2 j hja
  · have e : j = acc.length := by rw [List.length_append, List.length_singleton] at hj; omega
    have e : rd (acc ++ [1 + t]) j = 1 + t := by simp [rd, List.getD_eq_getElem?_getD, e]
    rw [e]; omega
theorem shape_l0 (x : List Int) (hx : x.all in64 = true) (m : Int) (hm0 : 0 ≤ m) (hm : m < 3) (hat : dioramaref01_At.f x 0 3 = some m) (n : Nat) : ∀ (acc : List Int), (acc.length : Int) + n = 1 + m → ShapeOK acc → EvP (fun k => dioramaref36_Shape.l0 k x acc acc.length) ShapeOK := by
  induction n with
  | zero =>
    intro acc h hok; refine EvP.step (fun k => by rw [dioramaref36_Shape.l0]) (EvP.known hat ?_); rw [w64 (by omega) (by omega)]; exact EvP.neg (by omega) (EvP.const hok)
  | succ n ih =>
    intro acc h hok; refine EvP.step (fun k => by rw [dioramaref36_Shape.l0]) (EvP.known hat ?_); rw [w64 (x := 1 + m) (by omega) (by omega)]; obtain ⟨e1, e2, e3⟩ := atv_spec x (wrap64 (1 + (acc.length : Int))) 4 hx; refine EvP.pos (by omega) (EvP.known e1 (EvP.pos (by omega) ?_)); generalize atv x (wrap64 (1 + (acc.length : Int))) 4 = t at e2 e3; replace e3 := e3 (by omega); have ih := ih (acc ++ [1 + t]) (by rw [List.length_append, List.length_singleton]; omega) (hok.snoc (by omega) e2 e3); rw [List.length_append, List.length_singleton] at ih; rw [w64s acc.length (by omega), w64 (x := 1 + t) (by omega) (by omega)]; exact ih
theorem shape_ev (x : List Int) (hx : x.all in64 = true) : EvP (fun k => dioramaref36_Shape.f k x) ShapeOK := by
  obtain ⟨e1, e2, e3⟩ := atv_spec x 0 3 hx; unfold dioramaref36_Shape.f; exact shape_l0 x hx (atv x 0 3) e2 (e3 (by decide)) e1 (1 + atv x 0 3).toNat [] (by simp; omega) ⟨by simp, fun j hj => by simp at hj⟩
def WorldOK (sh : List Int) (w : Wd) : Prop := w.length = sh.length ∧ ∀ (j : Nat) rows, w[j]? = some rows → rows.length ≤ 6 ∧ ∀ r ∈ rows, (r.length : Int) = rd sh j
section
variable (sh x : List Int) (hx : x.all in64 = true) (hs : ShapeOK sh) {R : Wd → Prop}
include hx hs
theorem world_l2 (j : Nat) (hj : j < sh.length) (x5 : Wd) (x6 : Int) (x8 : List (List Int)) (x9 : Int) (h8 : x8.length ≤ 5) (hg : ∀ row : List Int, (row.length : Int) = rd sh j → EvP (fun k => dioramaref36_World.l1 k sh x x5 x6 j (x8 ++ [row]) (wrap64 (x9 + 1))) R) :
    ∀ (n : Nat) (row : List Int), (row.length : Int) + n = rd sh j → EvP (fun k => dioramaref36_World.l2 k sh x x5 x6 j x8 x9 row row.length) R
  | 0, row, h => by
    refine EvP.step (fun k => by rw [dioramaref36_World.l2]) ?_; exact EvP.pos (by omega) (EvP.pos (by omega) (EvP.neg (by omega) (EvP.pos (by omega) (hg row (by omega)))))
  | n + 1, row, h => by
    have hb := hs.2 j hj; refine EvP.step (fun k => by rw [dioramaref36_World.l2]) ?_; refine EvP.pos (by omega) (EvP.pos (by omega) (EvP.pos (by omega) (EvP.known (atv_spec x _ 3 hx).1 (EvP.pos (by omega) ?_)))); generalize atv x _ 3 = t; have ih := world_l2 j hj x5 x6 x8 x9 h8 hg n (row ++ [t]) (by simp; omega); rw [List.length_append, List.length_singleton] at ih; rw [w64s row.length (by omega)]; exact ih
theorem world_l1 (j : Nat) (hj : j < sh.length) (x5 : Wd) (h5 : x5.length = j) (x6 : Int) (hg : ∀ rows : List (List Int), rows.length ≤ 4 → (∀ r ∈ rows, (r.length : Int) = rd sh j) → EvP (fun k => dioramaref36_World.l0 k sh x (x5 ++ [rows]) (wrap64 (x6 + 17)) (wrap64 ((j : Int) + 1))) R) :
    ∀ (n : Nat) (rows : List (List Int)), rows.length + n = 4 → (∀ r ∈ rows, (r.length : Int) = rd sh j) → EvP (fun k => dioramaref36_World.l1 k sh x x5 x6 j rows rows.length) R := by
  obtain ⟨e1, e2, e3⟩ := atv_spec x x6 5 hx; replace e3 := e3 (by decide); intro n
  induction n with
  | zero =>
    intro rows h hr; refine EvP.step (fun k => by rw [dioramaref36_World.l1]) (EvP.known e1 ?_); have := hs.1; exact EvP.neg (by omega) (EvP.pos (by omega) (hg rows (by omega) hr))
  | succ n ih =>
    intro rows h hr; refine EvP.step (fun k => by rw [dioramaref36_World.l1]) (EvP.known e1 ?_); have := hs.1
    by_cases hc : (rows.length : Int) < atv x x6 5
    · refine EvP.pos hc ?_
      have hb := hs.2 j hj; refine world_l2 sh x hx hs j hj x5 x6 rows rows.length (by omega) (fun row hrow => ?_) (rd sh j).toNat [] (by simp; omega)
      have := ih (rows ++ [row]) (by simp; omega) (fun r hr' => by
        rcases List.mem_append.1 hr' with h | h
        (· exact hr r h)
        · rw [List.mem_singleton.1 h]; exact hrow)
      rw [List.length_append, List.length_singleton] at this; rw [w64s rows.length (by omega)]; exact this
    (· exact EvP.neg hc (EvP.pos (by omega) (hg rows (by omega) hr)))
theorem world_l0 : ∀ (n : Nat) (x5 : Wd) (x6 : Int), x5.length + n = sh.length → (∀ (j : Nat) rows, x5[j]? = some rows → rows.length ≤ 4 ∧ ∀ r ∈ rows, (r.length : Int) = rd sh j) → EvP (fun k => dioramaref36_World.l0 k sh x x5 x6 x5.length) (fun w => w.length = sh.length ∧ ∀ (j : Nat) rows, w[j]? = some rows → rows.length ≤ 4 ∧ ∀ r ∈ rows, (r.length : Int) = rd sh j)
  | 0, x5, x6, h, hok => by
    refine EvP.step (fun k => by rw [dioramaref36_World.l0]) ?_; exact EvP.neg (by omega) (EvP.const ⟨by omega, hok⟩)
  | n + 1, x5, x6, h, hok => by
    have h3 := hs.1; refine EvP.step (fun k => by rw [dioramaref36_World.l0]) ?_; refine EvP.pos (by omega) ?_; refine world_l1 sh x hx hs x5.length (by omega) x5 rfl x6 (fun rows h4 hr => ?_) 4 [] rfl (fun r hr => by simp at hr)
    have := world_l0 n (x5 ++ [rows]) (wrap64 (x6 + 17)) (by simp; omega) (fun j rows' hj => by
      by_cases hjl : j < x5.length
      (· rw [List.getElem?_append_left hjl] at hj; exact hok j rows' hj)
      · have e : j = x5.length := by have := (List.getElem?_eq_some_iff.1 hj).1; simp at this; omega
        subst e
        simp at hj
        subst hj
        exact ⟨h4, hr⟩)
    rw [List.length_append, List.length_singleton] at this; rw [w64s x5.length (by omega)]; exact this
theorem world_ev : EvP (fun k => dioramaref36_World.f k sh x) (WorldOK sh) := by
  unfold dioramaref36_World.f; refine EvP.mono (world_l0 sh x hx hs sh.length [] 0 (by simp) (fun j rows hj => by simp at hj)) ?_; rintro w ⟨h1, h2⟩; exact ⟨h1, fun j rows hj => ⟨by have := (h2 j rows hj).1; omega, (h2 j rows hj).2⟩⟩
end
end Go.Proofs.Ytcgpemefmakjiaa.PX
namespace Go.Proofs.Ytcgpemefmakjiaa.PX
open Go.RowKit Go.Proofs.YtcgpemefmakjiaaW.PrintWords Go.Proofs.YtcgpemefmakjiaaW.PrintLast Go.Proofs.YtcgpemefmakjiaaW.PrintMore
set_option linter.unusedVariables false
theorem stepsW_append : ∀ (cs ds : List S61) (l l' : Wd), stepsW l cs = (l', 0) → stepsW l (cs ++ ds) = stepsW l' ds
  | [], ds, l, l', h => by
    have e : l = l' := by
      have := congrArg Prod.fst h; exact this
    rw [e]; rfl
  | c :: cs, ds, l, l', h => by
    simp only [stepsW, List.cons_append] at h ⊢
    by_cases h1 : (stepS l c).2 = 0
    (· rw [if_pos h1] at h ⊢; exact stepsW_append cs ds _ l' h); (· rw [if_neg h1] at h; exact absurd (congrArg Prod.snd h) h1)
def Both (l : Wd) (cs : List S61) (l' : Wd) : Prop := stepsW l cs = (l', 0) ∧ stepsW l' (turnR cs) = (l, 0)
theorem Both.nil (l : Wd) : Both l [] l := ⟨rfl, rfl⟩
theorem Both.trans {l l' l'' : Wd} {cs ds : List S61} (h : Both l cs l') (k : Both l' ds l'') : Both l (cs ++ ds) l'' := by
  refine ⟨(stepsW_append cs ds l l' h.1).trans k.1, ?_⟩
  have e : turnR (cs ++ ds) = turnR ds ++ turnR cs := by unfold turnR; rw [List.reverse_append, List.map_append]
  rw [e]; exact (stepsW_append _ _ _ _ k.2).trans h.2
theorem Both.one {l l' : Wd} {c : S61} (h : stepS l c = (l', 0)) (k : stepS l' (turnC c) = (l, 0)) : Both l [c] l' := by
  refine ⟨?_, ?_⟩
  · simp [stepsW, h]
  · simp [turnR, stepsW, k]
section
variable {L : Wd} {k : Nat} {X : List (List Int)}
theorem stepS_at (hk : k < L.length) (c : S61) (hc : c.f0 = k) (hf : formedB c.f2 c.f3 c.f4 c.f5 = true) : stepS (L.set k X) c = stepK (L.set k X) k X c.f1 c.f2 c.f3 c.f4 c.f5 := by
  unfold stepS stepW
  have e : rd_L2 (L.set k X) (k : Int) = X := by simp [rd_L2, List.getD_eq_getElem?_getD, hk]
  rw [if_neg (by rw [hf]; simp), if_neg (by rw [hc, List.length_set]; omega), hc, e]; rfl
theorem both_set (hk : k < L.length) (i j : Nat) (row : List Int) (new : Int) (hX : X[i]? = some row) (hj : j < row.length) (hw : row.length = (rd_L1 X 0).length) :
    Both (L.set k X) [⟨k, i, j, rd row j, new, []⟩] (L.set k (X.set i (row.set j new))) := by
  have hi := (List.getElem?_eq_some_iff.1 hX).1
  have step : ∀ (X : List (List Int)) (row : List Int) (new : Int), X[i]? = some row → j < row.length → row.length = (rd_L1 X 0).length → stepS (L.set k X) ⟨k, i, j, rd row j, new, []⟩ = (L.set k (X.set i (row.set j new)), 0) := by
    intro X row new hX hj hw; have hi := (List.getElem?_eq_some_iff.1 hX).1
    have er : rd_L1 X (i : Int) = row := by simp [rd_L1, List.getD_eq_getElem?_getD, hX]
    rw [stepS_at hk _ rfl (by unfold formedB; rw [if_pos (by simp)]; rfl)]; unfold stepK; simp only; rw [if_neg (by omega), if_neg (by omega), if_neg (by omega), if_neg (by omega), er, if_neg (by simp), List.set_set]; rfl
  refine Both.one (step X row new hX hj hw) ?_; have hX2 : (X.set i (row.set j new))[i]? = some (row.set j new) := List.getElem?_set_self hi
  have e0 : turnC ⟨k, i, j, rd row j, new, []⟩ = ⟨k, i, j, rd (row.set j new) j, rd row j, []⟩ := by
    have : rd (row.set j new) j = new := by simp [rd, List.getD_eq_getElem?_getD, hj]
    rw [this]; unfold turnC turnF; simp only; rw [if_neg (by omega), if_neg (by omega)]
  have hw2 : (row.set j new).length = (rd_L1 (X.set i (row.set j new)) 0).length := by
    rw [List.length_set, hw]
    by_cases e : i = 0
    · subst e
      have a : rd_L1 (X.set 0 (row.set j new)) 0 = row.set j new := by simp [rd_L1, List.getD_eq_getElem?_getD, hi]
      rw [a, List.length_set, hw]
    · have a : rd_L1 (X.set i (row.set j new)) 0 = rd_L1 X 0 := by simp [rd_L1, List.getD_eq_getElem?_getD, List.getElem?_set_ne e]
      rw [a]
  have := step (X.set i (row.set j new)) (row.set j new) (rd row j) hX2 (by rw [List.length_set]; exact hj) hw2; rw [e0, this, List.set_set, List.set_set]
  have e1 : row.set j (rd row j) = row := by rw [rd_nat row j hj, List.set_getElem_self]
  have e2 : X.set i row = X := by
    obtain ⟨_, e⟩ := List.getElem?_eq_some_iff.1 hX; rw [← e, List.set_getElem_self]
  rw [e1, e2]
theorem step_take (hk : k < L.length) (row : List Int) (h1 : 1 ≤ row.length) (h10 : row.length ≤ 10) (hw : row.length = (rd_L1 (X ++ [row]) 0).length) : stepS (L.set k (X ++ [row])) ⟨k, (X.length : Int), -2, 0, 0, row⟩ = (L.set k X, 0) := by
  have er : rd_L1 (X ++ [row]) (X.length : Int) = row := by simp [rd_L1, List.getD_eq_getElem?_getD]
  rw [stepS_at hk _ rfl (by unfold formedB; rw [if_neg (by simp)]; simp [h1, h10])]; unfold stepK; simp only; rw [if_neg (by rw [List.length_append, List.length_singleton]; omega), if_neg (by omega), if_pos trivial, if_neg (by rw [List.length_append, List.length_singleton]; omega), if_pos er, List.set_set]
  simp
theorem step_add (hk : k < L.length) (row : List Int) (h1 : 1 ≤ row.length) (h10 : row.length ≤ 10) (hw : row.length = (rd_L1 (X ++ [row]) 0).length) : stepS (L.set k X) ⟨k, (X.length : Int), -1, 0, 0, row⟩ = (L.set k (X ++ [row]), 0) := by
  rw [stepS_at hk _ rfl (by unfold formedB; rw [if_neg (by simp)]; simp [h1, h10])]; unfold stepK; simp only
  rw [if_neg (fun h => by
    have e : rd_L1 (X ++ [row]) 0 = rd_L1 X 0 := by
      show (X ++ [row]).getD 0 [] = X.getD 0 []
      rw [List.getD_eq_getElem?_getD, List.getD_eq_getElem?_getD, List.getElem?_append_left h.2.1]
    rw [e] at hw
    exact h.2.2 hw), if_pos trivial, if_pos trivial, List.set_set]
theorem both_take (hk : k < L.length) (row : List Int) (h1 : 1 ≤ row.length) (h10 : row.length ≤ 10) (hw : row.length = (rd_L1 (X ++ [row]) 0).length) : Both (L.set k (X ++ [row])) [⟨k, (X.length : Int), -2, 0, 0, row⟩] (L.set k X) :=
  Both.one (step_take hk row h1 h10 hw) (step_add hk row h1 h10 hw)
theorem both_add (hk : k < L.length) (row : List Int) (h1 : 1 ≤ row.length) (h10 : row.length ≤ 10) (hw : row.length = (rd_L1 (X ++ [row]) 0).length) : Both (L.set k X) [⟨k, (X.length : Int), -1, 0, 0, row⟩] (L.set k (X ++ [row])) :=
  Both.one (step_add hk row h1 h10 hw) (step_take hk row h1 h10 hw)
theorem setRow_both (hk : k < L.length) (i : Nat) (ra rb : List Int) (hX : X[i]? = some ra) (hab : ra.length = rb.length) (hw : ra.length = (rd_L1 X 0).length) : ∀ n : Nat, n ≤ ra.length → Both (L.set k X) (setRow k i ra rb n) (L.set k (X.set i (rb.take n ++ ra.drop n)))
  | 0, _ => by
    have e2 : X.set i ra = X := by
      obtain ⟨_, e⟩ := List.getElem?_eq_some_iff.1 hX; rw [← e, List.set_getElem_self]
    simp only [List.take_zero, List.drop_zero, List.nil_append, e2]; exact Both.nil _
  | n + 1, h => by
    have ih := setRow_both hk i ra rb hX hab hw n (by omega); have hi := (List.getElem?_eq_some_iff.1 hX).1; rw [setRow_snoc]; refine ih.trans ?_; have hra : rd ra (n : Int) = ra[n] := rd_nat ra n (by omega); have hrb : rd rb (n : Int) = rb[n] := rd_nat rb n (by omega)
    have hm : (rb.take n ++ ra.drop n)[n]? = some ra[n] := by
      rw [List.getElem?_append_right (by rw [List.length_take]; omega), List.length_take, List.getElem?_drop]; rw [show n + (n - min n rb.length) = n by omega]; exact List.getElem?_eq_getElem _
    have hset : (rb.take n ++ ra.drop n).set n rb[n] = rb.take (n + 1) ++ ra.drop (n + 1) := by
      rw [List.set_append_right _ _ (by rw [List.length_take]; omega), List.length_take, show n - min n rb.length = 0 by omega, List.drop_eq_getElem_cons (show n < ra.length by omega), List.set_cons_zero, List.take_succ_eq_append_getElem (show n < rb.length by omega), List.append_assoc]; rfl
    have hlen : (rb.take n ++ ra.drop n).length = ra.length := by rw [List.length_append, List.length_take, List.length_drop]; omega
    unfold setAt
    by_cases he : rd rb (n : Int) = rd ra (n : Int)
    · rw [if_pos he]
      have e : rb.take (n + 1) ++ ra.drop (n + 1) = rb.take n ++ ra.drop n := by
        rw [← hset]
        apply List.ext_getElem?
        intro q
        by_cases hq : n = q
        (· subst hq; rw [List.getElem?_set_self (by omega), hm, ← hra, ← hrb, he]); (· rw [List.getElem?_set_ne hq])
      rw [e]; exact Both.nil _
    · rw [if_neg he]
      have hX2 : (X.set i (rb.take n ++ ra.drop n))[i]? = some (rb.take n ++ ra.drop n) := List.getElem?_set_self hi
      have hw2 : (rb.take n ++ ra.drop n).length = (rd_L1 (X.set i (rb.take n ++ ra.drop n)) 0).length := by
        by_cases e : i = 0
        · subst e
          have a : rd_L1 (X.set 0 (rb.take n ++ ra.drop n)) 0 = rb.take n ++ ra.drop n := by simp [rd_L1, List.getD_eq_getElem?_getD, hi]
          rw [a]
        · have a : rd_L1 (X.set i (rb.take n ++ ra.drop n)) 0 = rd_L1 X 0 := by simp [rd_L1, List.getD_eq_getElem?_getD, List.getElem?_set_ne e]
          rw [a, hlen, hw]
      have := both_set hk i n (rb.take n ++ ra.drop n) rb[n] hX2 (by omega) hw2
      have hrd : rd (rb.take n ++ ra.drop n) (n : Int) = rd ra (n : Int) := by
        rw [hra]
        simp [rd, List.getD_eq_getElem?_getD, hm]
      rw [hrd, List.set_set, hset] at this; rw [hrb]; exact this
end
section
variable {L : Wd} {k wd : Nat} {a b : List (List Int)}
theorem setAll_both (hk : k < L.length) (ha : ∀ r ∈ a, r.length = wd) (hb : ∀ r ∈ b, r.length = wd) : ∀ m : Nat, m ≤ a.length → m ≤ b.length → Both (L.set k a) (setAll k a b m) (L.set k (b.take m ++ a.drop m))
  | 0, _, _ => by simpa [setAll] using Both.nil (L.set k a)
  | m + 1, hma, hmb => by
    have ih := setAll_both hk ha hb m (by omega) (by omega); rw [setAll_snoc]; refine ih.trans ?_; have ea : rd_L1 a (m : Int) = a[m] := rd_L1_nat a m (by omega); have eb : rd_L1 b (m : Int) = b[m] := rd_L1_nat b m (by omega); have hla : a[m].length = wd := ha _ (List.getElem_mem _); have hlb : b[m].length = wd := hb _ (List.getElem_mem _)
    have hm : (b.take m ++ a.drop m)[m]? = some a[m] := by
      rw [List.getElem?_append_right (by rw [List.length_take]; omega), List.length_take, List.getElem?_drop, show m + (m - min m b.length) = m by omega]; exact List.getElem?_eq_getElem _
    have h0 : (rd_L1 (b.take m ++ a.drop m) 0).length = wd := by
      by_cases hz : 0 < m
      · have e : rd_L1 (b.take m ++ a.drop m) 0 = b[0] := by
          simp only [rd_L1, List.getD_eq_getElem?_getD, Int.toNat_zero]; rw [List.getElem?_append_left (by rw [List.length_take]; omega), List.getElem?_take_of_lt hz, List.getElem?_eq_getElem (by omega)]; rfl
        rw [e]; exact hb _ (List.getElem_mem _)
      · have e0 : m = 0 := by omega
        subst e0
        have e : rd_L1 (b.take 0 ++ a.drop 0) 0 = a[0] := by
          show a.getD 0 [] = a[0]
          rw [List.getD_eq_getElem?_getD, List.getElem?_eq_getElem (by omega)]; rfl
        rw [e]; exact hla
    have := setRow_both hk (X := b.take m ++ a.drop m) m a[m] b[m] hm (by omega) (by omega) a[m].length (Nat.le_refl _); rw [ea, eb]
    have e : (b.take m ++ a.drop m).set m (b[m].take a[m].length ++ a[m].drop a[m].length) = b.take (m + 1) ++ a.drop (m + 1) := by
      rw [List.drop_length, List.append_nil, show List.take a[m].length b[m] = b[m] from List.take_of_length_le (by omega)]; rw [List.set_append_right _ _ (by rw [List.length_take]; omega), List.length_take, show m - min m b.length = 0 by omega, List.drop_eq_getElem_cons (show m < a.length by omega), List.set_cons_zero, List.take_succ_eq_append_getElem (show m < b.length by omega), List.append_assoc]; rfl
    rw [e] at this; exact this
theorem takeL_both (hk : k < L.length) (h1 : 1 ≤ wd) (h10 : wd ≤ 10) (ha : ∀ r ∈ a, r.length = wd) (hb : ∀ r ∈ b, r.length = wd) (m : Nat) (hma : m ≤ a.length) (hmb : m ≤ b.length) : ∀ j : Nat, j ≤ a.length - m → Both (L.set k (b.take m ++ a.drop m)) (takeL k a j) (L.set k ((b.take m ++ a.drop m).take (a.length - j)))
  | 0, _ => by
    have hlen : (b.take m ++ a.drop m).length = a.length := by rw [List.length_append, List.length_take, List.length_drop]; omega
    rw [show (b.take m ++ a.drop m).take (a.length - 0) = b.take m ++ a.drop m from List.take_of_length_le (by omega)]; exact Both.nil _
  | j + 1, h => by
    have ih := takeL_both hk h1 h10 ha hb m hma hmb j (by omega); rw [takeL_snoc]; refine ih.trans ?_; obtain ⟨q, hq⟩ : ∃ q, q = a.length - (j + 1) := ⟨_, rfl⟩
    have hqa : q < a.length := by omega
    have hlen : (b.take m ++ a.drop m).length = a.length := by rw [List.length_append, List.length_take, List.length_drop]; omega
    have e1 : a.length - j = q + 1 := by omega
    have hget : (b.take m ++ a.drop m)[q]'(by omega) = a[q] := by
      apply Option.some.inj
      rw [← List.getElem?_eq_getElem, List.getElem?_append_right (by rw [List.length_take]; omega), List.length_take, List.getElem?_drop, show m + (q - min m b.length) = q by omega]; exact List.getElem?_eq_getElem _
    rw [← hq, e1, List.take_succ_eq_append_getElem (show q < (b.take m ++ a.drop m).length by omega), hget]
    have ei : (a.length : Int) - 1 - (j : Int) = (((b.take m ++ a.drop m).take q).length : Int) := by rw [List.length_take]; omega
    have er : rd_L1 a ((a.length : Int) - 1 - (j : Int)) = a[q] := by
      have : (a.length : Int) - 1 - (j : Int) = (q : Int) := by omega
      rw [this]; exact rd_L1_nat a q hqa
    have hwq : a[q].length = wd := ha _ (List.getElem_mem _); rw [er, ei]; refine both_take hk a[q] (by omega) (by omega) ?_
    have h0 : (b.take m ++ a.drop m).take q ++ [a[q]] = (b.take m ++ a.drop m).take (q + 1) := by rw [List.take_succ_eq_append_getElem (show q < (b.take m ++ a.drop m).length by omega), hget]
    rw [h0, hwq]
    have hmem : ∀ r ∈ (b.take m ++ a.drop m).take (q + 1), r.length = wd := fun r hr => by
      rcases List.mem_append.1 (List.mem_of_mem_take hr) with h | h
      (· exact hb r (List.mem_of_mem_take h)); (· exact ha r (List.mem_of_mem_drop h))
    have hz : 0 < ((b.take m ++ a.drop m).take (q + 1)).length := by rw [List.length_take]; omega
    exact (hmem _ (by rw [show (0 : Int) = ((0 : Nat) : Int) from rfl, rd_L1_nat _ 0 hz]; exact List.getElem_mem _)).symm
theorem addL_both (hk : k < L.length) (h1 : 1 ≤ wd) (h10 : wd ≤ 10) (hb : ∀ r ∈ b, r.length = wd) (m : Nat) (hmb : m ≤ b.length) : ∀ j : Nat, j ≤ b.length - m → Both (L.set k (b.take m)) (addL k b m j) (L.set k (b.take (m + j)))
  | 0, _ => by simpa [addL] using Both.nil _
  | j + 1, h => by
    have ih := addL_both hk h1 h10 hb m hmb j (by omega); rw [addL_snoc]; refine ih.trans ?_
    have ei : (m : Int) + (j : Int) = ((b.take (m + j)).length : Int) := by rw [List.length_take]; omega
    have er : rd_L1 b ((m : Int) + (j : Int)) = b[m + j] := by
      have : (m : Int) + (j : Int) = ((m + j : Nat) : Int) := by omega
      rw [this]; exact rd_L1_nat b (m + j) (by omega)
    have hwq : b[m + j].length = wd := hb _ (List.getElem_mem _)
    have h0 : b.take (m + (j + 1)) = b.take (m + j) ++ [b[m + j]] := by
      rw [show m + (j + 1) = (m + j) + 1 by omega, List.take_succ_eq_append_getElem]
    rw [er, ei, h0]; refine both_add hk b[m + j] (by omega) (by omega) ?_; rw [← h0, hwq]
    have hz : 0 < (b.take (m + (j + 1))).length := by rw [List.length_take]; omega
    exact (hb _ (List.mem_of_mem_take (i := m + (j + 1)) (by rw [show (0 : Int) = ((0 : Nat) : Int) from rfl, rd_L1_nat _ 0 hz]; exact List.getElem_mem _))).symm
theorem chgs_both (hk : k < L.length) (h1 : 1 ≤ wd) (h10 : wd ≤ 10) (ha : ∀ r ∈ a, r.length = wd) (hb : ∀ r ∈ b, r.length = wd) (m : Nat) (hma : m ≤ a.length) (hmb : m ≤ b.length) : Both (L.set k a) (chgs k a b m) (L.set k b) := by
  unfold chgs; have e1 := setAll_both hk ha hb m hma hmb; have e2 := takeL_both hk h1 h10 ha hb m hma hmb (a.length - m) (Nat.le_refl _); have e3 := addL_both hk h1 h10 hb m hmb (b.length - m) (Nat.le_refl _)
  have t2 : (b.take m ++ a.drop m).take (a.length - (a.length - m)) = b.take m := by
    rw [show a.length - (a.length - m) = m by omega, List.take_append_of_le_length (by rw [List.length_take]; omega), List.take_take, Nat.min_self]
  have t3 : b.take (m + (b.length - m)) = b := List.take_of_length_le (by omega); rw [t2] at e2; rw [t3] at e3; exact (e1.trans e2).trans e3
end
section
variable {sh : List Int} {a b : Wd} (hs : ShapeOK sh) (ha : WorldOK sh a) (hb : WorldOK sh b)
include hs
theorem WorldOK.rows (hw : WorldOK sh a) (j : Nat) (hj : j < a.length) : a[j].length ≤ 6 ∧ (∀ r ∈ a[j], r.length = (rd sh j).toNat) ∧ 1 ≤ (rd sh j).toNat ∧ (rd sh j).toNat ≤ 10 := by
  obtain ⟨h6, hr⟩ := hw.2 j a[j] (List.getElem?_eq_getElem hj); have := hs.2 j (by have := hw.1; omega); exact ⟨h6, fun r hr' => by have := hr r hr'; omega, by omega, by omega⟩
theorem WorldOK.shaped (hw : WorldOK sh a) : shapedB a = true := by
  unfold shapedB; have h3 := hs.1
  have hsum : sumLen a ≤ 18 := by
    have : ∀ (w : Wd), (∀ r ∈ w, r.length ≤ 6) → sumLen w ≤ 6 * w.length := by
      intro w
      induction w with
      | nil => intro _; simp [sumLen]
      | cons r w ih =>
        intro h; have := ih (fun r hr => h r (List.mem_cons_of_mem _ hr)); have := h r List.mem_cons_self
        have e : sumLen (r :: w) = r.length + sumLen w := by simp [sumLen]
        rw [e, List.length_cons]; omega
    have := this a (fun r hr => by
      obtain ⟨j, hj, e⟩ := List.getElem_of_mem hr; rw [← e]
      exact (hw.rows hs j hj).1)
    have := hw.1; omega
  simp only [Bool.and_eq_true, decide_eq_true_eq, List.all_eq_true]; refine ⟨⟨fun rows hr => ?_, by have := hw.1; omega⟩, by omega⟩; obtain ⟨j, hj, e⟩ := List.getElem_of_mem hr; obtain ⟨_, h2, h4, h5⟩ := hw.rows hs j hj; rw [e] at h2; rw [Bool.not_eq_true', anyBad, List.any_eq_false]; intro r hr'; have hz : 0 < rows.length := List.length_pos_of_mem hr'; have e0 : (rd_L1 rows 0).length = (rd sh j).toNat := h2 _ (by rw [show (0 : Int) = ((0 : Nat) : Int) from rfl, rd_L1_nat _ 0 hz]; exact List.getElem_mem _); rw [badLen_false (by rw [h2 r hr', e0]) (by rw [h2 r hr']; exact h4) (by rw [h2 r hr']; exact h5)]
  simp
include ha hb
theorem okK_all (j : Nat) (hj : j < a.length) : okK a b j = true := by
  have hjb : j < b.length := by have := ha.1; have := hb.1; omega
  have ra := (ha.rows hs j hj).2.1; have rb := (hb.rows hs j hjb).2.1; unfold okK; rw [rd_L2_nat a j hj, rd_L2_nat b j hjb]
  by_cases h1 : 0 < a[j].length
  · by_cases h2 : 0 < b[j].length
    · have e1 : (rd_L1 a[j] 0).length = (rd sh j).toNat := ra _ (by rw [show (0 : Int) = ((0 : Nat) : Int) from rfl, rd_L1_nat _ 0 h1]; exact List.getElem_mem _)
      have e2 : (rd_L1 b[j] 0).length = (rd sh j).toNat := rb _ (by rw [show (0 : Int) = ((0 : Nat) : Int) from rfl, rd_L1_nat _ 0 h2]; exact List.getElem_mem _); rw [e1, e2]
      simp
    · simp [h2]
  · simp [h1]
theorem diffR_shape : diffR a b = (diffL a b a.length, 0) := by
  unfold diffR
  have hl : a.length = b.length := by rw [ha.1, hb.1]
  have hall : (List.range a.length).all (okK a b) = true := by
    rw [List.all_eq_true]
    exact fun j hj => okK_all hs ha hb j (List.mem_range.1 hj)
  rw [ha.shaped hs, hb.shaped hs, decide_eq_true hl, hall]; rfl
theorem diffL_both : ∀ n : Nat, n ≤ a.length → Both a (diffL a b n) (b.take n ++ a.drop n)
  | 0, _ => by simpa [diffL] using Both.nil a
  | n + 1, h => by
    have ih := diffL_both n (by omega)
    have hl : a.length = b.length := by rw [ha.1, hb.1]
    rw [diffL_snoc]; refine ih.trans ?_; obtain ⟨_, ra, r1, r2⟩ := ha.rows hs n (by omega); obtain ⟨_, rb, _, _⟩ := hb.rows hs n (by omega)
    have hlen : (b.take n ++ a.drop n).length = a.length := by rw [List.length_append, List.length_take, List.length_drop]; omega
    have hsm := bestOf_le a[n] b[n] (min a[n].length b[n].length); have := chgs_both (L := b.take n ++ a.drop n) (k := n) (by omega) r1 r2 ra rb (sameM a[n] b[n]) (by unfold sameM; omega) (by unfold sameM; omega)
    have e1 : (b.take n ++ a.drop n).set n a[n] = b.take n ++ a.drop n := by
      rw [List.set_append_right _ _ (by rw [List.length_take]; omega), List.length_take, show n - min n b.length = 0 by omega, List.drop_eq_getElem_cons (show n < a.length by omega), List.set_cons_zero]
    have e2 : (b.take n ++ a.drop n).set n b[n] = b.take (n + 1) ++ a.drop (n + 1) := by
      rw [List.set_append_right _ _ (by rw [List.length_take]; omega), List.length_take, show n - min n b.length = 0 by omega, List.drop_eq_getElem_cons (show n < a.length by omega), List.set_cons_zero, List.take_succ_eq_append_getElem (show n < b.length by omega), List.append_assoc]; rfl
    rw [e1, e2] at this; rw [rd_L2_nat a n (by omega), rd_L2_nat b n (by omega)]; exact this
theorem diff_both : Both a (diffL a b a.length) b := by
  have := diffL_both hs ha hb a.length (Nat.le_refl _)
  have hl : a.length = b.length := by rw [ha.1, hb.1]
  rw [List.drop_length, List.append_nil, List.take_of_length_le (by omega)] at this; exact this
end
end Go.Proofs.Ytcgpemefmakjiaa.PX
namespace Go.Proofs.Ytcgpemefmakjiaa.PX
open Go.RowKit Go.Proofs.YtcgpemefmakjiaaW.PrintWords Go.Proofs.YtcgpemefmakjiaaW.PrintLast Go.Proofs.YtcgpemefmakjiaaW.PrintMore
set_option linter.unusedVariables false
theorem setAll_le2 (kind : Int) (a b : List (List Int)) (w : Nat) : ∀ m : Nat, (∀ i : Nat, i < m → (rd_L1 a i).length ≤ w) → (setAll kind a b m).length ≤ w * m
  | 0, _ => by simp [setAll]
  | m + 1, h => by
    have ih := setAll_le2 kind a b w m (fun i hi => h i (by omega)); have h1 := setRow_le kind m (rd_L1 a m) (rd_L1 b m) (rd_L1 a m).length; have h2 := h m (by omega); rw [setAll_snoc, List.length_append, Nat.mul_add, Nat.mul_one]; omega
theorem setAt_sym (kind : Int) (i : Nat) (ra rb : List Int) (k : Nat) : (setAt kind i ra rb k).length = (setAt kind i rb ra k).length := by
  unfold setAt
  by_cases h : rd rb k = rd ra k
  (· rw [if_pos h, if_pos h.symm]); (· rw [if_neg h, if_neg (fun e => h e.symm)]; rfl)
theorem setRow_sym (kind : Int) (i : Nat) (ra rb : List Int) : ∀ n : Nat, (setRow kind i ra rb n).length = (setRow kind i rb ra n).length
  | 0 => rfl
  | n + 1 => by rw [setRow_snoc, setRow_snoc, List.length_append, List.length_append, setRow_sym kind i ra rb n, setAt_sym]
theorem setAll_sym (kind : Int) (a b : List (List Int)) : ∀ m : Nat, (∀ i : Nat, i < m → (rd_L1 a i).length = (rd_L1 b i).length) → (setAll kind a b m).length = (setAll kind b a m).length
  | 0, _ => rfl
  | m + 1, h => by
    rw [setAll_snoc, setAll_snoc, List.length_append, List.length_append, setAll_sym kind a b m (fun i hi => h i (by omega)), setRow_sym, h m (by omega)]
theorem bestOf_sym (a b : List (List Int)) (h : ∀ i : Nat, i < min a.length b.length → (rd_L1 a i).length = (rd_L1 b i).length) : ∀ n : Nat, n ≤ min a.length b.length → bestOf a b n = bestOf b a n
  | 0, _ => by
    show ((a.length : Int) + b.length, 0) = ((b.length : Int) + a.length, 0)
    rw [Int.add_comm]
  | n + 1, hn => by
    have e : setsN a b (n + 1) = setsN b a (n + 1) := setAll_sym 0 a b (n + 1) (fun i hi => h i (by omega))
    have e2 : (setsN b a (n + 1) : Int) + a.length + b.length - 2 * ((n : Int) + 1) = (setsN b a (n + 1) : Int) + b.length + a.length - 2 * ((n : Int) + 1) := by omega
    rw [bestOf_succ, bestOf_succ, bestOf_sym a b h n (by omega), e, e2]
theorem chgs_sym (kind : Int) (a b : List (List Int)) (h : ∀ i : Nat, i < min a.length b.length → (rd_L1 a i).length = (rd_L1 b i).length) : (chgs kind a b (sameM a b)).length = (chgs kind b a (sameM b a)).length := by
  have e : sameM a b = sameM b a := by
    unfold sameM; rw [bestOf_sym a b h _ (Nat.le_refl _), Nat.min_comm]
  have hle : sameM b a ≤ min a.length b.length := by
    rw [← e]; exact bestOf_le a b _
  rw [chgs_len, chgs_len, e]; have e2 : setsN a b (sameM b a) = setsN b a (sameM b a) := setAll_sym 0 a b _ (fun i hi => h i (by omega)); rw [e2]; omega
theorem setRow_self (kind : Int) (i : Nat) (ra : List Int) : ∀ n : Nat, setRow kind i ra ra n = []
  | 0 => rfl
  | n + 1 => by
    rw [setRow_snoc, setRow_self kind i ra n]; exact if_pos rfl
theorem setAll_self (kind : Int) (a : List (List Int)) : ∀ m : Nat, setAll kind a a m = []
  | 0 => rfl
  | m + 1 => by rw [setAll_snoc, setAll_self kind a m, setRow_self]; rfl
theorem bestOf_self (a : List (List Int)) : ∀ n : Nat, n ≤ a.length → bestOf a a n = ((a.length : Int) + a.length - 2 * n, n)
  | 0, _ => by
    show ((a.length : Int) + a.length, 0) = _
    simp
  | n + 1, h => by
    have e : setsN a a (n + 1) = 0 := by unfold setsN; rw [setAll_self]; rfl
    rw [bestOf_succ, bestOf_self a n (by omega), e, if_pos (by simp only; omega)]; refine Prod.ext ?_ rfl; simp only; omega
theorem chgs_self (kind : Int) (a : List (List Int)) : chgs kind a a (sameM a a) = [] := by
  have e : sameM a a = a.length := by
    unfold sameM; rw [Nat.min_self, bestOf_self a a.length (Nat.le_refl _)]
  unfold chgs; rw [e, setAll_self, Nat.sub_self]; rfl
section
variable {sh : List Int} {a b : Wd} (hs : ShapeOK sh) (ha : WorldOK sh a) (hb : WorldOK sh b)
include hs ha hb
theorem rows_same (j : Nat) (hj : j < a.length) : ∀ i : Nat, i < min (rd_L2 a j).length (rd_L2 b j).length → (rd_L1 (rd_L2 a j) i).length = (rd_L1 (rd_L2 b j) i).length := by
  have hjb : j < b.length := by have := ha.1; have := hb.1; omega
  intro i hi; rw [rd_L2_nat a j hj, rd_L2_nat b j hjb] at hi ⊢; rw [rd_L1_nat _ i (by omega), rd_L1_nat _ i (by omega), (ha.rows hs j hj).2.1 _ (List.getElem_mem _), (hb.rows hs j hjb).2.1 _ (List.getElem_mem _)]
theorem diffL_sym : ∀ n : Nat, n ≤ a.length → (diffL a b n).length = (diffL b a n).length
  | 0, _ => rfl
  | n + 1, h => by
    rw [diffL_snoc, diffL_snoc, List.length_append, List.length_append, diffL_sym n (by omega), chgs_sym n _ _ (rows_same hs ha hb n (by omega))]
theorem diffL_short : ∀ n : Nat, n ≤ a.length → (diffL a b n).length ≤ 72 * n
  | 0, _ => by simp [diffL]
  | n + 1, h => by
    have ih := diffL_short n (by omega)
    have hnb : n < b.length := by have := ha.1; have := hb.1; omega
    obtain ⟨a6, ra, _, r10⟩ := ha.rows hs n (by omega); obtain ⟨b6, rb, _, _⟩ := hb.rows hs n hnb; rw [diffL_snoc, List.length_append, chgs_len, rd_L2_nat a n (by omega), rd_L2_nat b n hnb]; have hm := bestOf_le a[n] b[n] (min a[n].length b[n].length); have hm' : sameM a[n] b[n] ≤ min a[n].length b[n].length := hm
    have hset : setsN a[n] b[n] (sameM a[n] b[n]) ≤ 10 * sameM a[n] b[n] := setAll_le2 0 a[n] b[n] 10 _ (fun i hi => by
      rw [rd_L1_nat _ i (by omega), ra _ (List.getElem_mem _)]
      exact r10)
    omega
theorem apply_both : applyR a (diffL a b a.length) = (b, 0) ∧ applyR b (turnR (diffL a b a.length)) = (a, 0) := by
  obtain ⟨h1, h2⟩ := diff_both hs ha hb; have hl := diffL_short hs ha hb a.length (Nat.le_refl _); have h3 := ha.1; have h4 := hs.1
  have hsum : ∀ {w : Wd}, shapedB w = true → tall w ≤ 512 := fun {w} h => by
    have := (shaped_small h).2.1; rw [tall_eq]; omega
  have sa := ha.shaped hs; have sb := hb.shaped hs; refine ⟨?_, ?_⟩; (· unfold applyR; rw [if_neg (by rw [sa]; simp), if_neg (by omega), h1, if_neg (by simp), if_neg (by have := hsum sb; simp only; omega)])
  · unfold applyR
    have : (turnR (diffL a b a.length)).length = (diffL a b a.length).length := by simp [turnR]
    rw [if_neg (by rw [sb]; simp), if_neg (by omega), h2, if_neg (by simp), if_neg (by have := hsum sa; simp only; omega)]
end
theorem diffL_self (a : Wd) : ∀ n : Nat, diffL a a n = []
  | 0 => rfl
  | n + 1 => by rw [diffL_snoc, diffL_self a n, chgs_self]; rfl
theorem sameWorld_l1 (x : Wd) (hx : x.length ≤ 1000) (hr : ∀ rows ∈ x, rows.length ≤ 1000 ∧ ∀ r ∈ rows, r.length ≤ 1000) (i : Nat) (hi : i < x.length) (hg : Ev (fun k => dioramaref36_SameWorld.l0 k x x ((i + 1 : Nat) : Int)) true) (n : Nat) : ∀ j : Nat, j + n = (rd_L2 x i).length → Ev (fun k => dioramaref36_SameWorld.l1 k x x i j) true := by
  have hm : rd_L2 x i ∈ x := by rw [rd_L2_nat x i hi]; exact List.getElem_mem _
  obtain ⟨hrl, hrr⟩ := hr _ hm
  induction n with
  | zero =>
    intro j h; refine EvP.step (fun k => by rw [dioramaref36_SameWorld.l1]) (EvP.pos (by omega) (EvP.pos (by omega) (EvP.neg (by omega) ?_))); rw [w64s i (by omega)]; exact hg
  | succ n ih =>
    intro j h; refine EvP.step (fun k => by rw [dioramaref36_SameWorld.l1]) ?_; refine EvP.pos (by omega) (EvP.pos (by omega) (EvP.pos (by omega) (EvP.pos (by omega) (EvP.pos (by omega) (EvP.pos (by omega) ?_))))); rw [w64s j (by omega)]
    have hl : (rd_L1 (rd_L2 x i) j).length ≤ 1000 := by
      rw [rd_L1_nat _ j (by omega)]; exact hrr _ (List.getElem_mem _)
    exact Ev.bind (sameInts_ev _ _ (by omega)) (EvP.pos (by simp) (ih (j + 1) (by omega)))
theorem sameWorld_l0 (x : Wd) (hx : x.length ≤ 1000) (hr : ∀ rows ∈ x, rows.length ≤ 1000 ∧ ∀ r ∈ rows, r.length ≤ 1000) (n : Nat) : ∀ i : Nat, i + n = x.length → Ev (fun k => dioramaref36_SameWorld.l0 k x x i) true := by
  induction n with
  | zero =>
    intro i h; exact EvP.step (fun k => by rw [dioramaref36_SameWorld.l0]) (EvP.neg (by omega) (EvP.const rfl))
  | succ n ih =>
    intro i h; refine EvP.step (fun k => by rw [dioramaref36_SameWorld.l0]) (EvP.pos (by omega) (EvP.pos (by omega) (EvP.pos (by omega) (EvP.pos rfl ?_)))); exact sameWorld_l1 x hx hr i (by omega) (ih (i + 1) (by omega)) (rd_L2 x i).length 0 (by omega)
theorem sameWorld_ev (x : Wd) (hx : x.length ≤ 1000) (hr : ∀ rows ∈ x, rows.length ≤ 1000 ∧ ∀ r ∈ rows, r.length ≤ 1000) : Ev (fun k => dioramaref36_SameWorld.f k x x) true := by
  unfold dioramaref36_SameWorld.f; exact EvP.pos rfl (sameWorld_l0 x hx hr x.length 0 (by omega))
theorem WorldOK.same {sh : List Int} {a : Wd} (hs : ShapeOK sh) (ha : WorldOK sh a) : Ev (fun k => dioramaref36_SameWorld.f k a a) true := by
  refine sameWorld_ev a (by have := ha.1; have := hs.1; omega) (fun rows hr => ?_); obtain ⟨j, hj, e⟩ := List.getElem_of_mem hr; obtain ⟨h6, h2, _, h10⟩ := ha.rows hs j hj; rw [e] at h6 h2; exact ⟨by omega, fun r hr' => by rw [h2 r hr']; omega⟩
end Go.Proofs.Ytcgpemefmakjiaa.PX
namespace Go.Proofs.Ytcgpemefmakjiaa.Pure
open Go.RowKit Go.Proofs.Ytcgpemefmakjiaa.PX Go.Proofs.YtcgpemefmakjiaaW.PrintWords Go.Proofs.YtcgpemefmakjiaaW.PrintLast
theorem DiffLeads : dioramalaw36_DiffLeads.Pure := by
  intro l0 l1 _ _ w0 _ _ w1; have i0 := wf_all w0; have i1 := wf_all w1; refine Ev.at_ (F := fun k => dioramalaw36_DiffLeads.f k l0 l1) (r := true) ?_; unfold dioramalaw36_DiffLeads.f; refine EvP.bind (shape_ev l0 i0) (fun s hs => ?_); refine EvP.bind (world_ev s l0 i0 hs) (fun a ha => ?_); refine EvP.bind (world_ev s l1 i1 hs) (fun b hb => ?_)
  have hl : a.length = b.length := by rw [ha.1, hb.1]
  have h3 := hs.1; have hla := ha.1
  have sa : sumLen a < 4611686018427387904 := by have := (shaped_small (ha.shaped hs)).2.1; omega
  have sb : sumLen b < 4611686018427387904 := by have := (shaped_small (hb.shaped hs)).2.1; omega
  obtain ⟨p1, p2⟩ := apply_both hs ha hb; have hlen := diffL_short hs ha hb a.length (Nat.le_refl _); refine EvP.known (r := (diffL a b a.length, 0)) (by unfold diff_Diff.f; rw [if_pos ⟨sa, sb⟩, diffR_shape hs ha hb]) ?_; refine EvP.known (r := (diffL b a b.length, 0)) (by unfold diff_Diff.f; rw [if_pos ⟨sb, sa⟩, diffR_shape hs hb ha]) ?_; refine EvP.known (r := ([], 0)) (by unfold diff_Diff.f; rw [if_pos ⟨sa, sa⟩, diffR_shape hs ha ha, diffL_self]) ?_; refine EvP.known (r := (b, 0)) (by unfold diff_Apply.f; rw [if_pos sa]; exact congrArg some p1) ?_
  refine EvP.known (r := turnR (diffL a b a.length)) (by
    unfold diff_Turn.f; have hw := diffR_wide a b; rw [diffR_shape hs ha hb] at hw
    rw [if_pos ⟨by simp only; omega, fun x hx => by have := hw x hx; omega⟩]) ?_
  refine EvP.known (r := (a, 0)) (by unfold diff_Apply.f; rw [if_pos sb]; exact congrArg some p2) ?_; refine EvP.pos rfl (EvP.pos rfl (EvP.pos rfl (EvP.pos rfl ?_))); refine EvP.step (fun k => by rw [dioramalaw36_DiffLeads.j0]) (EvP.neg (by simp) ?_); refine EvP.pos (by rw [← hl, diffL_sym hs ha hb a.length (Nat.le_refl _)]) (EvP.pos rfl ?_); refine Ev.bind (hb.same hs) (EvP.pos rfl (Ev.bind (ha.same hs) (EvP.pos rfl ?_))); exact EvP.known (r := true) rfl (EvP.const rfl)
end Go.Proofs.Ytcgpemefmakjiaa.Pure
namespace Go.Proofs.Ytcgpemefmakjiaa.diffLeads
open Go.ChangeShapes Go.WideShapes Go.ChangeAt Go.RowKit
open Go.ChangeMaps (open_string shut_string)
set_option linter.unusedVariables false
theorem own : ownKnob Try.prog.godebug = none := by kernel_rfl
theorem laidOut : laidOutB Try.prog = true := by kernel_rfl
def IsRow (k : IntKind) (w : World) (a : Option Addr) (len cap : Nat) (zs : List Int) : Prop :=
  (a = none ∧ len = 0 ∧ cap = 0 ∧ zs = []) ∨
  ∃ x, a = some x ∧ len ≤ cap ∧ cap ≤ maxLen ∧ zs.length = cap ∧ (∀ i, i < zs.length → w.cell? (x.add i) = some (.int k (zs.getD i 0))) ∧ ∀ n ∈ zs, (Lit.int k n).wf = true
set_option maxRecDepth 100000 in
theorem lifted (os : Os) (started : os.Started) (H : Type) (enc : TypeId × Value → H) :
    ReturnsInHanded {} Try.checked os 4 .any (Rows.diffLeadsSpec.pre6 enc Try.prog Try.f4 Rows.diffLeadsRow.domain false) (Rows.diffLeadsSpec.post enc Try.prog Try.f4 false true false false) := by
  refine returnsInHanded_of_change_sized (C := Try.checked) own started (by kernel_rfl) Try.func4
    (ChangeSpec.witness6 (enc := enc) (C := Try.checked) false ⟨#[], #[.slice none 0 0, .slice none 0 0], []⟩ 8 (by kernel_rfl) (by kernel_rfl) (by kernel_rfl) (by kernel_rfl)) ?_
  intro W base args ds gs before hval0 hW hcnd hsz0 _; have hsz : (DataW.weightsEach Try.prog (Try.f4.params.toList ++ Rows.diffLeadsSpec.plain.varTypes Try.prog) (ds ++ gs)).all (· ≤ reachBytes) = true := hsz0; have hval : ∀ (j : Nat) t v, Try.f4.params[j]? = some t → args[j]? = some v → Value.okWide Try.prog W .any base t v := hval0; have hW' := hW; obtain ⟨p, q, hA0, hV, rfl, hfz, hnd⟩ := hW; have hA : DataW.TrodAll enc Try.prog W 0 (fun _ => true) true Try.f4.params.toList args.toList ds p := hA0; rw [Try.params4] at hA hval hsz; obtain ⟨v0, vs0, d0, ds0, p0, q0, hargs, rfl, rfl, h0, r0⟩ := trodAll_cons hA; obtain ⟨v1, vs1, d1, ds1, p1, q1, rfl, rfl, rfl, h1, r1⟩ := trodAll_cons r0; obtain ⟨rfl, rfl, rfl⟩ := trodAll_nil r1
  obtain rfl : args = #[v0, v1] := by cases args; simp_all
  obtain ⟨rfl, rfl⟩ := trodVars_none hV; obtain ⟨a0, len0, cap0, rfl⟩ := okWide_slice Try.underlying22 (hval 0 22 v0 rfl rfl); have k0 := h0
  have lt0 : ∀ x ∈ p0, x.block < W.heap.size := by obtain ⟨m, hm⟩ := k0; exact DataW.trod_lt m _ _ _ hm
  obtain ⟨z0, w0⟩ : ∃ zs, IsRow .i64 W a0 len0 cap0 zs := by
    obtain ⟨fuel, hf⟩ := h0
    rcases open_ints Try.underlying22 Try.underlying3 (by kernel_rfl) hf with ⟨hcs, _⟩ | ⟨x, l, c, zs, hcs, _, hl, hm, hz, _, hcell, hwz⟩
    · simp [Value.cells] at hcs
      obtain ⟨rfl, rfl, rfl⟩ := hcs; exact ⟨[], .inl ⟨rfl, rfl, rfl, rfl⟩⟩
    · simp [Value.cells] at hcs
      obtain ⟨rfl, rfl, rfl⟩ := hcs; exact ⟨zs, .inr ⟨_, rfl, hl, hm, by simpa using hz, hcell, hwz⟩⟩
  have y0 : len0 * 8 ≤ 140737488351232 := Go.Proofs.YtcgpemefmakjiaaW.PrintWords.sized_ints hsz (j := 0) (t := 22) rfl rfl Try.underlying22 Try.underlying3 (by kernel_rfl) (by kernel_rfl) h0; obtain ⟨a1, len1, cap1, rfl⟩ := okWide_slice Try.underlying22 (hval 1 22 v1 rfl rfl); have k1 := h1
  have lt1 : ∀ x ∈ p1, x.block < W.heap.size := by obtain ⟨m, hm⟩ := k1; exact DataW.trod_lt m _ _ _ hm
  obtain ⟨z1, w1⟩ : ∃ zs, IsRow .i64 W a1 len1 cap1 zs := by
    obtain ⟨fuel, hf⟩ := h1
    rcases open_ints Try.underlying22 Try.underlying3 (by kernel_rfl) hf with ⟨hcs, _⟩ | ⟨x, l, c, zs, hcs, _, hl, hm, hz, _, hcell, hwz⟩
    · simp [Value.cells] at hcs
      obtain ⟨rfl, rfl, rfl⟩ := hcs; exact ⟨[], .inl ⟨rfl, rfl, rfl, rfl⟩⟩
    · simp [Value.cells] at hcs
      obtain ⟨rfl, rfl, rfl⟩ := hcs; exact ⟨zs, .inr ⟨_, rfl, hl, hm, by simpa using hz, hcell, hwz⟩⟩
  have y1 : len1 * 8 ≤ 140737488351232 := Go.Proofs.YtcgpemefmakjiaaW.PrintWords.sized_ints hsz (j := 1) (t := 22) rfl rfl Try.underlying22 Try.underlying3 (by kernel_rfl) (by kernel_rfl) h1; clear hA0 hval0 hsz0 hsz
  refine (PX.dioramalaw36_DiffLeads.walk Pure.DiffLeads a0 len0 cap0 z0 a1 len1 cap1 z1 W w0 y0 w1 y1).mono fun e W' ⟨he, bel⟩ => ?_
  subst he; exact ⟨_, rfl, _, _, _, [], _, [], hW', trodAll_mk1 (shut_bool Try.underlying4 _), (trodAll_cons_mk (Below.trod laidOut (by kernel_rfl) (of_decide_eq_true (by kernel_rfl)) k0 bel lt0) (trodAll_cons_mk (Below.trod laidOut (by kernel_rfl) (of_decide_eq_true (by kernel_rfl)) k1 bel lt1) trodAll_mk0)), rfl, bel.frame _, fun h => by cases h⟩
theorem over : Rows.diffLeadsRow.holds Try.pinned (OpenSpec.ofChange Rows.diffLeadsSpec) :=
  OpenClaim.holds_of_wide 4 Try.f4 rfl rfl rfl rfl rfl rfl rfl ⟨rfl, rfl, rfl, rfl, rfl⟩ rfl rfl rfl rfl rfl (by kernel_rfl) Try.func4 (by kernel_rfl)
    (of_decide_eq_true (by kernel_rfl)) (by unfold Func.isWrapper; first | (rw [if_pos (by decide +kernel)]; kernel_rfl) | (rw [if_neg (by decide +kernel)]; exact ⟨rfl, rfl⟩))
    (fun os started H enc _ => lifted os started H enc)
theorem proved : Rows.DiffLeadsSaid := over
end Go.Proofs.Ytcgpemefmakjiaa.diffLeads
namespace Go.Proofs.Ytcgpemefmakjiaa
theorem diffLeads_holds : Rows.DiffLeadsSaid := diffLeads.proved
end Go.Proofs.Ytcgpemefmakjiaa

