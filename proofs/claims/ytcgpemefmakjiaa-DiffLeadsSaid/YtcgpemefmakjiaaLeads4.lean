/- Texts of this claim, merged: part 4. -/
import Derived.RangeFuncNested
import Derived.RangeFuncBound
import Derived.RangeFuncCalls
import Derived.RangeFuncLeaves
import Derived.Shelf.Abstract
import Derived.Shelf.RegionOpen
import Derived.WalkKit
import Derived.OwnWalkIn
import Derived.TacticsInMore
import Derived.LoopNIn
import Derived.LoopIn
import Derived.Test.YtcgpemefmakjiaaLeads2
import Derived.Lib.Hide
import Derived.LoopTactic
import Derived.Sort.LoopGhostIn
import Derived.StillTailTactics
import Derived.Deep.QuietTactic
import Derived.BigQuiet
import Derived.Test.YtcgpemefmakjiaaLeads3
namespace Go.Proofs.Ytcgpemefmakjiaa.Iter
open Go.RowKit
structure KeepBody (B : Nat) (ts : List Nat) (W W' : World) : Prop where
  os : W'.os = W.os
  tape : W'.tape = W.tape
  output : W'.output = W.output
  size : W.heap.size ≤ W'.heap.size
  same : ∀ (i : Nat) (o : Obj), W.heap[i]? = some o → (i < B ∨ o.isCells = false ∨ ∃ c t fr, o = .cells c t fr ∧ t ∉ ts) → W'.heap[i]? = some o
structure KeepIter (B : Nat) (ts : List Nat) (W W' : World) : Prop where
  os : W'.os = W.os
  tape : W'.tape = W.tape
  output : W'.output = W.output
  size : W.heap.size ≤ W'.heap.size
  same : ∀ (i : Nat) (o : Obj), W.heap[i]? = some o → (i < B ∨ ∃ c t fr, o = .cells c t fr ∧ t ∉ ts) → W'.heap[i]? = some o
variable {B : Nat} {ts : List Nat} {W W' W1 W2 : World}
theorem KeepBody.refl (B : Nat) (ts : List Nat) (W : World) : KeepBody B ts W W := ⟨rfl, rfl, rfl, Nat.le_refl _, fun _ _ h _ => h⟩
theorem KeepBody.trans (h : KeepBody B ts W W1) (k : KeepBody B ts W1 W2) : KeepBody B ts W W2 := ⟨k.os.trans h.os, k.tape.trans h.tape, k.output.trans h.output, Nat.le_trans h.size k.size, fun i o hi ho => k.same i o (h.same i o hi ho) ho⟩
theorem KeepBody.alloc (B : Nat) (ts : List Nat) (W : World) (o : Obj) : KeepBody B ts W (W.alloc o) := ⟨rfl, rfl, rfl, by simp, fun k o' hk _ => (Below.heap_alloc W o k (Array.getElem?_eq_some_iff.1 hk).1).trans hk⟩
theorem KeepBody.grown {row : Option Nat} (hg : W.grownBy W' row) (hr : ∀ r, row = some r → B ≤ r ∧ ∀ o, W.heap[r]? = some o → ∃ c t fr, o = .cells c t fr ∧ t ∈ ts) : KeepBody B ts W W' :=
  ⟨hg.os, hg.tape, hg.output, hg.size, fun i o hi ho => (hg.block i (Array.getElem?_eq_some_iff.1 hi).1 (fun e => by
    obtain ⟨h1, h2⟩ := hr i e.symm; obtain ⟨c, t, fr, h3, h4⟩ := h2 o hi; subst h3
    rcases ho with ho | ho | ⟨c', t', fr', ho, hn⟩
    (· omega)
    · simp [Obj.isCells] at ho
    · injection ho with _ ho
      exact hn (ho ▸ h4))).trans hi⟩
theorem KeepBody.setCell {p : Addr} (u : Value) (hp : B ≤ p.block) (ht : ∀ o, W.heap[p.block]? = some o → ∃ c t fr, o = .cells c t fr ∧ t ∈ ts) : KeepBody B ts W (W.setCell p u) :=
  ⟨rfl, rfl, rfl, by show W.heap.size ≤ (W.heap.modify _ _).size; rw [Array.size_modify]; exact Nat.le_refl _, fun i o hi ho => (Below.heap_setCell W p u i (fun e => by
    subst e; obtain ⟨c, t, fr, h3, h4⟩ := ht o hi; subst h3
    rcases ho with ho | ho | ⟨c', t', fr', ho, hn⟩
    (· omega)
    · simp [Obj.isCells] at ho
    · injection ho with _ ho
      exact hn (ho ▸ h4))).trans hi⟩
theorem KeepBody.iter (h : KeepBody B ts W W') : KeepIter B ts W W' := ⟨h.os, h.tape, h.output, h.size, fun i o hi ho => h.same i o hi (ho.imp id (fun h => .inr h))⟩
theorem KeepIter.trans (h : KeepIter B ts W W1) (k : KeepIter B ts W1 W2) : KeepIter B ts W W2 := ⟨k.os.trans h.os, k.tape.trans h.tape, k.output.trans h.output, Nat.le_trans h.size k.size, fun i o hi ho => k.same i o (h.same i o hi ho) ho⟩
theorem KeepIter.below (h : KeepIter B ts W W') (hB : B ≤ W.heap.size) : Below B W W' :=
  ⟨h.os, h.tape, h.output, h.size, fun k hk => by
    have hk' : k < W.heap.size := by omega
    rw [Array.getElem?_eq_getElem hk']
    exact h.same k _ (Array.getElem?_eq_getElem hk') (.inl hk)⟩
theorem KeepIter.putObj {l : Nat} {o : Obj} (o' : Obj) (hB : B ≤ l) (hl : W.heap[l]? = some o) (ho : o.isCells = false) : KeepIter B ts W (W.putObj l o') :=
  ⟨rfl, rfl, rfl, by simp, fun i o2 hi h2 => (World.putObj_heap_other (fun e => by
    subst e; rw [hl] at hi
    injection hi with hi
    subst hi
    rcases h2 with h2 | ⟨c, t, fr, h2, _⟩
    (· omega)
    · subst h2; simp [Obj.isCells] at ho)).trans hi⟩
def StepI (B : Nat) (tI : List Nat) (W W' : World) : Prop := ∃ row, W.grownBy W' row ∧ ∀ r, row = some r → B ≤ r ∧ ∃ o, W.heap[r]? = some o ∧ (o.isCells = false ∨ ∃ c t fr, o = .cells c t fr ∧ t ∈ tI)
def StepC (B : Nat) (tI : List Nat) (W W' : World) : Prop := ∃ row, W.grownBy W' row ∧ ∀ r, row = some r → B ≤ r ∧ ∃ c t fr, W.heap[r]? = some (.cells c t fr) ∧ t ∈ tI
theorem StepC.i {B B' : Nat} {tI : List Nat} (h : StepC B tI W W') (hB : B' ≤ B) : StepI B' tI W W' := by
  obtain ⟨row, hg, hr⟩ := h; refine ⟨row, hg, fun r e => ?_⟩; obtain ⟨h1, c, t, fr, h2, h3⟩ := hr r e; exact ⟨by omega, _, h2, .inr ⟨c, t, fr, rfl, h3⟩⟩
theorem StepI.putObj {tI : List Nat} {l : Nat} {o : Obj} (o' : Obj) (hB : B ≤ l) (hl : W.heap[l]? = some o) (ho : o.isCells = false) : StepI B tI W (W.putObj l o') :=
  ⟨some l, grownBy_putObj' W l o', fun r e => by cases e; exact ⟨hB, o, hl, .inl ho⟩⟩
theorem StepI.alloc (B : Nat) (tI : List Nat) (W : World) (o : Obj) : StepI B tI W (W.alloc o) := ⟨none, World.grownBy_alloc W o none, fun r e => by cases e⟩
theorem StepC.alloc (B : Nat) (tI : List Nat) (W : World) (o : Obj) : StepC B tI W (W.alloc o) := ⟨none, World.grownBy_alloc W o none, fun r e => by cases e⟩
theorem StepI.other {tI : List Nat} (h : StepI B tI W W') {i : Nat} {c : Array Value} {t : Nat} {fr : Nat × Nat} (hi : W.heap[i]? = some (.cells c t fr)) (ht : t ∉ tI) : W'.heap[i]? = some (.cells c t fr) := by
  obtain ⟨row, hg, hr⟩ := h; refine (hg.block i (Array.getElem?_eq_some_iff.1 hi).1 (fun e => ?_)).trans hi; obtain ⟨_, o, ho, hc⟩ := hr i e.symm; rw [hi] at ho
  injection ho with ho
  subst ho
  rcases hc with hc | ⟨c', t', fr', he, hm⟩
  · simp [Obj.isCells] at hc
  · injection he with _ he
    exact ht (he ▸ hm)
theorem StepI.below {tI : List Nat} {n0 : Nat} {w : World} (h : StepI B tI W W') (hb : Below n0 w W) (hn : n0 ≤ w.heap.size) (hB : n0 ≤ B) : Below n0 w W' := by
  obtain ⟨row, hg, hr⟩ := h; exact hb.grown hg (Nat.le_trans hn hb.size) (fun k e => Nat.le_trans hB (hr k e).1)
theorem StepC.nocells {tI : List Nat} (h : StepC B tI W W') {i : Nat} {o : Obj} (hi : W.heap[i]? = some o) (ho : o.isCells = false) : W'.heap[i]? = some o := by
  obtain ⟨row, hg, hr⟩ := h; refine (hg.block i (Array.getElem?_eq_some_iff.1 hi).1 (fun e => ?_)).trans hi; obtain ⟨_, c, t, fr, h2, _⟩ := hr i e.symm; rw [hi] at h2
  injection h2 with h2
  subst h2
  simp [Obj.isCells] at ho
def onPost (B : Nat) (ts : List Nat) (W : World) (R : World → Prop) : Exit → Act → World → Prop
  | .normal, _, W' => KeepBody B ts W W' ∧ R W'
  | _, _, _ => False
def Iterates {α : Type} (F : Fence) (n : Nat) (P : Program) (gf : Nat) (lb : Array Value) (enc : α → Array Value) (T : α → World → Prop) (S : List α → World → Prop) (N : Nat) (B : Nat) (ts tI : List Nat) (l : Nat) (W1 : World) : Prop :=
  ∀ J : List α → World → Prop, (∀ s A C, J s A → StepC W1.heap.size tI A C → J s C) →
    (∀ pre x W, J pre W → pre.length < N → T x W → YieldAt F (n - 1) P l (enc x) W fun e W' => e = .returned (.bool true) ∧ J (pre ++ [x]) W' ∧ KeepIter B ts W W') →
    J [] W1 → CallsIn F n P gf (#[.func (.yield l) #[] #[]] ++ lb) W1 fun e W' => (∃ v, e = .returned v) ∧ ∃ xs, S xs W' ∧ J xs W'
variable {F : Fence} {n : Nat} {P : Program}
theorem wpIn_range_on {α : Type} {g : Operand} {ps : Array Tmp} {assign body : Code} {Q : Exit → Act → World → Prop} {a : Act} {w : World}
    (hro : F.round = none) (h1 : 1 ≤ n) {gf : Nat} {lb : Array Value} (hg : a.eval g = .func (.func gf) #[] lb) (hFg : F.fn gf) (eg : ∀ args w, (callFunc gf args).run P w = .ok (.enter gf args) w)
    {enc : α → Array Value} {T : α → World → Prop} {S : List α → World → Prop} {N : Nat} {B : Nat} {ts tI : List Nat} (hB : B ≤ w.heap.size)
    (hiter : ∀ L, Iterates F (n - 1) P gf lb enc T S N B ts tI (w.heap.size + 1) ((w.alloc (.deferred (some []))).alloc (.loop L)))
    (hps : ∀ x, (enc x).size = ps.size)
    (I : List α → World → Prop) (Ax : α → Act → World → Prop)
    (hI : ∀ s A C, I s A → StepI w.heap.size tI A C → I s C) (hT : ∀ x A C, T x A → StepI w.heap.size tI A C → T x C) (hS : ∀ s A C, S s A → StepI w.heap.size tI A C → S s C) (hAx : ∀ x a A C, Ax x a A → StepI w.heap.size tI A C → Ax x a C)
    (h0 : I [] w)
    (hassign : ∀ (l : Nat) (pre : List α) (x : α) (W : World) (K : Act → World → Prop), I pre W → T x W → (∀ a1 W1, KeepBody B ts W W1 → I pre W1 → T x W1 → Ax x a1 W1 → K a1 W1) →
      assign.wpIn (F.inRound l) (n - 1 - 1) P (Exit.then K (fun _ _ _ => False)) { tmps := (ps.zip (enc x)).foldl (fun t (p, v) => t.setIfInBounds p v) a.tmps, defers := [] } W)
    (hbody : ∀ (l : Nat) (pre : List α) (x : α) (a1 : Act) (W : World), I pre W → pre.length < N → T x W → Ax x a1 W → body.wpIn (F.inRound l) (n - 1 - 1) P (onPost B ts W (I (pre ++ [x]))) a1 W)
    (hdone : ∀ (D : Nat) (xs : List α) (W : World), w.heap.size ≤ D → S xs W → I xs W → W.heap[D]? = some (.deferred (some [])) → Q .normal { a with defers := { target := .collected D, args := #[] } :: a.defers } W) :
    (Code.rangeFunc g ps assign body).wpIn F n P Q a w := by
  refine wpIn_rangeFunc ?_; intro fn hfn; rw [hro]
  obtain ⟨rec, hrec⟩ : ∃ rec : LoopState → Option Code → Loop, rec = fun st pe => { state := st, pending := pe, fn, tmps := a.tmps, params := ps, assign, body, defers := w.heap.size } := ⟨_, rfl⟩
  have hit := hiter (rec .ready none); obtain ⟨W1, hW1⟩ : ∃ W1, (w.alloc (.deferred (some []))).alloc (.loop (rec .ready none)) = W1 := ⟨_, rfl⟩; rw [hW1] at hit
  have hsz : W1.heap.size = w.heap.size + 2 := by rw [← hW1]; simp
  have hL1 : W1.heap[w.heap.size + 1]? = some (.loop (rec .ready none)) := by
    rw [← hW1]; have := World.alloc_heap_new (w.alloc (.deferred (some []))) (.loop (rec .ready none)); rwa [World.size_alloc] at this
  have hK1 : W1.heap[w.heap.size]? = some (.deferred (some [])) := by
    rw [← hW1]; exact (Below.heap_alloc _ _ _ (by simp)).trans (World.alloc_heap_new w _)
  have hI1 : I [] W1 := by rw [← hW1]; exact hI _ _ _ (hI _ _ _ h0 (StepI.alloc _ _ _ _)) (StepI.alloc _ _ _ _)
  refine ⟨w.heap.size + 1, [{ target := .collected w.heap.size, args := #[] }], W1, { target := .fn (.func gf) lb, args := #[.func (.yield (w.heap.size + 1)) #[] #[]] }, W1, gf,
    #[.func (.yield (w.heap.size + 1)) #[] #[]] ++ lb, W1, ?_, ?_, ?_, ?_, fun _ => h1, ?_⟩
  (· rw [← hW1, hrec]; exact run_enterLoop_outer _ _ _ _ _)
  · simp only [resolve, hg]
    simp [go_sem]
  (· intro f' hf'; simp [Target.leads] at hf'; subst hf'; exact hFg)
  · simp [invoke, go_sem, eg]
  · refine (hit (fun pre W => I pre W ∧ W.heap[w.heap.size + 1]? = some (.loop (rec .ready none)) ∧ W.heap[w.heap.size]? = some (.deferred (some [])))
      (fun s A C hs hst => ⟨hI s A C hs.1 (hst.i (by omega)), hst.nocells hs.2.1 rfl, hst.nocells hs.2.2 rfl⟩) ?_ ⟨hI1, hL1, hK1⟩).mono ?_
    · rintro pre x W ⟨hi, hl, hk⟩ hlen ht
      have hlt : w.heap.size + 1 < W.heap.size := (Array.getElem?_eq_some_iff.1 hl).1; have hy := run_yield (P := P) (args := enc x) hl (by rw [hrec]; exact hps x); rw [hrec] at hy; refine ⟨fn, _, assign, body, hy, roundIn_of_wpIn hfn (hassign _ pre x W _ hi ht (fun a1 W2 hkb hi2 ht2 hax => ?_))⟩; have hl2 : W2.heap[w.heap.size + 1]? = some (.loop (rec .ready none)) := hkb.same _ _ hl (.inr (.inl rfl)); have hk2 : W2.heap[w.heap.size]? = some (.deferred (some [])) := hkb.same _ _ hk (.inr (.inl rfl)); have hlt2 : w.heap.size + 1 < W2.heap.size := (Array.getElem?_eq_some_iff.1 hl2).1; refine ⟨_, run_beginRound hl2 (by rw [hrec]), ?_⟩; obtain ⟨W3, hW3⟩ : ∃ W3, W2.putObj (w.heap.size + 1) (.loop { rec .ready none with state := .busy }) = W3 := ⟨_, rfl⟩
      have hst : StepI w.heap.size tI W2 W3 := by rw [← hW3]; exact StepI.putObj _ (by omega) hl2 rfl
      have hl3 : W3.heap[w.heap.size + 1]? = some (.loop { rec .ready none with state := .busy }) := by rw [← hW3]; exact World.putObj_heap_same hlt2
      have hk3 : W3.heap[w.heap.size]? = some (.deferred (some [])) := by rw [← hW3]; exact (World.putObj_heap_other (by omega)).trans hk2
      have hw3 : KeepIter B ts W2 W3 := by rw [← hW3]; exact KeepIter.putObj _ (by omega) hl2 rfl
      rw [hW3]; refine wpIn_mono (hbody _ pre x a1 W3 (hI _ _ _ hi2 hst) hlen (hT _ _ _ ht2 hst) (hAx _ _ _ _ hax hst)) ?_; rintro e a3 W4 hp
      cases e with
      | normal =>
        obtain ⟨hkb4, hi4⟩ := hp; have hl4 := hkb4.same _ _ hl3 (.inr (.inl rfl)); have hk4 := hkb4.same _ _ hk3 (.inr (.inl rfl)); have hr := run_endRound (P := P) none hl4; refine ⟨_, _, hr, rfl, ⟨hI _ _ _ hi4 (StepI.putObj _ (by omega) hl4 rfl), ?_, (World.putObj_heap_other (by omega)).trans hk4⟩, ((hkb.iter.trans hw3).trans hkb4.iter).trans (KeepIter.putObj _ (by omega) hl4 rfl)⟩; rw [hrec]; exact World.putObj_heap_same (Array.getElem?_eq_some_iff.1 hl4).1
      | ret => exact hp.elim
      | exit id => exact hp.elim
      | goto t => exact hp.elim
      | panic ch => exact hp.elim
      | outgrown => exact hp.elim
    · rintro e W2 ⟨⟨v, rfl⟩, xs, hs, hi, hl, hk⟩
      have hst : ∀ o', StepI w.heap.size tI W2 (W2.putObj (w.heap.size + 1) o') := fun o' => StepI.putObj _ (by omega) hl rfl
      exact ⟨none, _, by have := run_endLoop (P := P) hl (by rw [hrec]; simp); rw [hrec] at this; exact this, hdone _ xs _ (Nat.le_refl _) (hS _ _ _ hs (hst _)) (hI _ _ _ hi (hst _)) ((World.putObj_heap_other (by omega)).trans hk)⟩
end Go.Proofs.Ytcgpemefmakjiaa.Iter
namespace Go.Proofs.Ytcgpemefmakjiaa.PX
open Go.RowKit Go.Shelf Go.Proofs.Ytcgpemefmakjiaa.Iter Go.Proofs.YtcgpemefmakjiaaW.PrintWords Go.Proofs.YtcgpemefmakjiaaW.PrintLast Go.Proofs.YtcgpemefmakjiaaW.PrintMore
set_option linter.unusedVariables false
set_option linter.unusedSimpArgs false
attribute [local go_sem] Oper.semAt_some
theorem room_none {F : Fence} (hd : F.depth = none) (k : Nat) : F.room k := fun d h => by rw [hd] at h; cases h
theorem round_any {F : Fence} (hd : F.depth = none) {m m' : Nat} {P : Program} {l : Nat} {f : FuncId} {tmps : Array Value} {assign body : Code} {w : World} {R : Ending → World → Prop}
    (h : RoundIn F m P l f tmps assign body w R) : RoundIn F m' P l f tmps assign body w R := ⟨h.1, fun c cs _ => h.2 c cs (room_none hd _)⟩
theorem yield_any {F : Fence} (hd : F.depth = none) {m : Nat} (m' : Nat) {P : Program} {l : Nat} {args : Array Value} {W : World} {R : Ending → World → Prop} (h : YieldAt F m P l args W R) : YieldAt F m' P l args W R := by
  obtain ⟨fn, tmps, assign, body, hy, hR⟩ := h; exact ⟨fn, tmps, assign, body, hy, round_any hd hR⟩
set_option maxHeartbeats 1000000 in
theorem say_in (n l : Nat) (k i f o nw : Int) (v : Value) (bm by_ : Nat) (W : World) (R : World → Prop)
    (hm : W.cell? ⟨bm, 0, none⟩ = some (.bool true)) (hyb : W.cell? ⟨by_, 0, none⟩ = some (.func (.yield l) #[] #[])) (hv : v.oneCell' = true)
    (hY : YieldAt Fence.wide n Try.prog l #[.agg #[.int .i64 k, .int .i64 i, .int .i64 f, .int .i64 o, .int .i64 nw, v]] (W.alloc (.cells #[.int .i64 k, .int .i64 i, .int .i64 f, .int .i64 o, .int .i64 nw, v] 61)) fun e W' => e = .returned (.bool true) ∧ R W')
    (hR : ∀ W', R W' → W'.cell? ⟨bm, 0, none⟩ = some (.bool true) ∧ W'.frozen? ⟨bm, 0, none⟩ = false) :
    CallsIn Fence.wide n Try.prog 65 #[.agg #[.int .i64 k, .int .i64 i, .int .i64 f, .int .i64 o, .int .i64 nw, v], .pointer (some ⟨bm, 0, none⟩), .pointer (some ⟨by_, 0, none⟩)] W fun e W' =>
      (∃ v, e = .returned v) ∧ ∃ W2, R W2 ∧ W' = W2.setCell ⟨bm, 0, none⟩ (.bool true) := by
  refine callsIn_of_wp Try.func65 rfl trivial ?_ rfl; simp only [Try.ntmps65, List.size_toArray, List.length_cons, List.length_nil, Nat.reduceAdd, Nat.reduceSub, Array.replicate_succ, Array.replicate_zero, List.push_toArray, List.append_toArray, List.nil_append, List.cons_append]; obtain ⟨fn, tmps, assign, body, hy, hRR⟩ := yield_any (m' := n - 1) rfl hY; clear hY; have hm1 := World.cell?_alloc_lt W (.cells #[.int .i64 k, .int .i64 i, .int .i64 f, .int .i64 o, .int .i64 nw, v] 61) ⟨bm, 0, none⟩ (World.block_lt_of_cell? W _ hm); have hy1 := World.cell?_alloc_lt W (.cells #[.int .i64 k, .int .i64 i, .int .i64 f, .int .i64 o, .int .i64 nw, v] 61) ⟨by_, 0, none⟩ (World.block_lt_of_cell? W _ hyb); rw [hm] at hm1; rw [hyb] at hy1; clear hm hyb
  gi_wp2
  refine ⟨(fun h => by cases h), hRR.mono ?_⟩; rintro e W3 ⟨rfl, hr⟩; obtain ⟨hm3, hf3⟩ := hR W3 hr; have HR := Lib.hid hr; clear hr hR hy hRR
  gi_wp2
  go_end0
  exact ⟨⟨_, rfl⟩, W3, HR.out, rfl⟩
def setAt (kind : Int) (i : Nat) (ra rb : List Int) (k : Nat) : List S61 := if rd rb k = rd ra k then [] else [⟨kind, i, k, rd ra k, rd rb k, []⟩]
def setRow (kind : Int) (i : Nat) (ra rb : List Int) (n : Nat) : List S61 := (List.range n).flatMap (setAt kind i ra rb)
def setAll (kind : Int) (a b : List (List Int)) (m : Nat) : List S61 := (List.range m).flatMap fun i => setRow kind i (rd_L1 a i) (rd_L1 b i) (rd_L1 a i).length
def takeL (kind : Int) (a : List (List Int)) (j : Nat) : List S61 := (List.range j).map fun (q : Nat) => ⟨kind, (a.length : Int) - 1 - q, -2, 0, 0, rd_L1 a ((a.length : Int) - 1 - q)⟩
def addL (kind : Int) (b : List (List Int)) (m j : Nat) : List S61 := (List.range j).map fun (q : Nat) => ⟨kind, (m : Int) + q, -1, 0, 0, rd_L1 b ((m : Int) + q)⟩
def chgs (kind : Int) (a b : List (List Int)) (m : Nat) : List S61 := setAll kind a b m ++ takeL kind a (a.length - m) ++ addL kind b m (b.length - m)
theorem setRow_snoc (kind : Int) (i : Nat) (ra rb : List Int) (n : Nat) : setRow kind i ra rb (n + 1) = setRow kind i ra rb n ++ setAt kind i ra rb n := by simp [setRow, List.range_succ, List.flatMap_append]
theorem setAll_snoc (kind : Int) (a b : List (List Int)) (m : Nat) : setAll kind a b (m + 1) = setAll kind a b m ++ setRow kind m (rd_L1 a m) (rd_L1 b m) (rd_L1 a m).length := by simp [setAll, List.range_succ, List.flatMap_append]
theorem takeL_snoc (kind : Int) (a : List (List Int)) (j : Nat) : takeL kind a (j + 1) = takeL kind a j ++ [⟨kind, (a.length : Int) - 1 - j, -2, 0, 0, rd_L1 a ((a.length : Int) - 1 - j)⟩] := by simp [takeL, List.range_succ]
theorem addL_snoc (kind : Int) (b : List (List Int)) (m j : Nat) : addL kind b m (j + 1) = addL kind b m j ++ [⟨kind, (m : Int) + j, -1, 0, 0, rd_L1 b ((m : Int) + j)⟩] := by simp [addL, List.range_succ]
abbrev Yd := S61 × Value
def Yd.cells (x : Yd) : Array Value := #[.int .i64 x.1.f0, .int .i64 x.1.f1, .int .i64 x.1.f2, .int .i64 x.1.f3, .int .i64 x.1.f4, x.2]
def Yd.enc (x : Yd) : Array Value := #[.agg x.cells]
def Yd.T (B : Nat) (x : Yd) (W : World) : Prop := Kd.R (Kd.int .i64) 3 W B (fun _ => True) x.2 x.1.f5
theorem Yd.T_one {B : Nat} {x : Yd} {W : World} (h : x.T B W) : x.2.oneCell' = true := by
  obtain ⟨A, c, e⟩ := Kd.R_slice h; rw [e]; rfl
structure Ctx (w0 : World) (l : Nat) (kind : Int) (m : Nat) (A Ab : Option Addr) (ca cb : Nat) (a b : List (List Int)) (bm ba bb bk gm gy : Nat) (wr : World) : Prop where
  m_ : wr.heap[bm]? = some (.cells #[.int .i64 m] 3 (0, 0))
  a_ : wr.heap[ba]? = some (.cells #[.slice A a.length ca] 64 (0, 0))
  b_ : wr.heap[bb]? = some (.cells #[.slice Ab b.length cb] 64 (0, 0))
  k_ : wr.heap[bk]? = some (.cells #[.int .i64 kind] 3 (0, 0))
  more : wr.heap[gm]? = some (.cells #[.bool true] 4 (0, 0))
  yb : wr.heap[gy]? = some (.cells #[.func (.yield l) #[] #[]] 104 (0, 0))
  bel : Below w0.heap.size w0 wr
section
variable {w0 : World} {l : Nat} {kind : Int} {m : Nat} {A Ab : Option Addr} {ca cb : Nat} {a b : List (List Int)} {bm ba bb bk gm gy : Nat} {wr wr' : World}
theorem Ctx.later (h : Ctx w0 l kind m A Ab ca cb a b bm ba bb bk gm gy wr) (hb : Below wr.heap.size wr wr') : Ctx w0 l kind m A Ab ca cb a b bm ba bb bk gm gy wr' := by
  have q : ∀ i o, wr.heap[i]? = some o → wr'.heap[i]? = some o := fun i o hi => (hb.block i (Array.getElem?_eq_some_iff.1 hi).1).trans hi
  exact ⟨q _ _ h.m_, q _ _ h.a_, q _ _ h.b_, q _ _ h.k_, q _ _ h.more, q _ _ h.yb, h.bel.trans (hb.mono h.bel.size)⟩
theorem Ctx.keep (h : Ctx w0 l kind m A Ab ca cb a b bm ba bb bk gm gy wr) (hb : KeepIter w0.heap.size [30, 61] wr wr') : Ctx w0 l kind m A Ab ca cb a b bm ba bb bk gm gy wr' := by
  have q : ∀ (i : Nat) (c : Array Value) (t : Nat), wr.heap[i]? = some (Obj.cells c t (0, 0)) → t ∉ [30, 61] → wr'.heap[i]? = some (.cells c t (0, 0)) := fun i c t hi ht => hb.same _ _ hi (.inr ⟨c, t, _, rfl, ht⟩)
  exact ⟨q _ _ _ h.m_ (by decide), q _ _ _ h.a_ (by decide), q _ _ _ h.b_ (by decide), q _ _ _ h.k_ (by decide), q _ _ _ h.more (by decide), q _ _ _ h.yb (by decide), h.bel.trans (hb.below h.bel.size)⟩
theorem Ctx.set (h : Ctx w0 l kind m A Ab ca cb a b bm ba bb bk gm gy wr) (hg : w0.heap.size ≤ gm) : Ctx w0 l kind m A Ab ca cb a b bm ba bb bk gm gy (wr.setCell ⟨gm, 0, none⟩ (.bool true)) := by
  have q : ∀ (i : Nat) (c : Array Value) (t : Nat), wr.heap[i]? = some (Obj.cells c t (0, 0)) → t ≠ 4 → (wr.setCell ⟨gm, 0, none⟩ (.bool true)).heap[i]? = some (.cells c t (0, 0)) := fun i c t hi ht => (Below.heap_setCell wr _ _ i (fun e => by
    subst e; have := h.more; rw [hi] at this
    injection this with this
    injection this with _ this
    exact ht this)).trans hi
  refine ⟨q _ _ _ h.m_ (by decide), q _ _ _ h.a_ (by decide), q _ _ _ h.b_ (by decide), q _ _ _ h.k_ (by decide), ?_, q _ _ _ h.yb (by decide), h.bel.setCell (p := ⟨gm, 0, none⟩) hg _⟩; have := blk_set h.more 0 (.bool true)
  simpa using this
theorem say_step {n N : Nat} {B1 : Nat} (J : List Yd → World → Prop) (hJ : ∀ s A C, J s A → StepC B1 [4] A C → J s C)
    (hY : ∀ pre x W, J pre W → pre.length < N → x.T w0.heap.size W → YieldAt Fence.wide (n - 1) Try.prog l x.enc W fun e W' => e = .returned (.bool true) ∧ J (pre ++ [x]) W' ∧ KeepIter w0.heap.size [30, 61] W W')
    (hg1 : B1 ≤ gm) (hB : w0.heap.size ≤ B1) (pre : List Yd) (x : Yd) (W : World) (hj : J pre W) (hlen : pre.length < N) (hc : Ctx w0 l kind m A Ab ca cb a b bm ba bb bk gm gy W) (ht : x.T w0.heap.size W) (n' : Nat) :
    CallsIn Fence.wide n' Try.prog 65 #[.agg #[.int .i64 x.1.f0, .int .i64 x.1.f1, .int .i64 x.1.f2, .int .i64 x.1.f3, .int .i64 x.1.f4, x.2], .pointer (some ⟨gm, 0, none⟩), .pointer (some ⟨gy, 0, none⟩)] W fun e W' =>
      (∃ v, e = .returned v) ∧ J (pre ++ [x]) W' ∧ Ctx w0 l kind m A Ab ca cb a b bm ba bb bk gm gy W' := by
  have hal : Below W.heap.size W (W.alloc (.cells x.cells 61)) := below_alloc (Below.refl _ _) _
  have h1 := say_in n' l x.1.f0 x.1.f1 x.1.f2 x.1.f3 x.1.f4 x.2 gm gy W (fun W2 => J (pre ++ [x]) W2 ∧ Ctx w0 l kind m A Ab ca cb a b bm ba bb bk gm gy W2)
    (cell_of_row _ _ 0 _ 4 (0, 0) hc.more) (cell_of_row _ _ 0 _ 104 (0, 0) hc.yb) (Yd.T_one ht)
    (by
      obtain ⟨fn, tmps, assign, body, hy, hR⟩ := yield_any (F := Fence.wide) rfl n' (hY pre x _ (hJ _ _ _ hj (StepC.alloc B1 [4] W (.cells x.cells 61))) hlen (Kd.R_below ht hal))
      exact ⟨fn, tmps, assign, body, hy, hR.mono (fun e W2 hp => ⟨hp.1, hp.2.1, (hc.later hal).keep hp.2.2⟩)⟩)
    (fun W2 hp => ⟨cell_of_row _ _ 0 _ 4 (0, 0) hp.2.more, by have := hp.2.more; simp [World.frozen?, this]⟩)
  refine h1.mono ?_; rintro e W' ⟨hv, W2, ⟨hj2, hc2⟩, rfl⟩; refine ⟨hv, hJ _ _ _ hj2 ⟨some gm, ?_, fun r e => ?_⟩, hc2.set (by omega)⟩; (· exact ⟨rfl, rfl, rfl, by simp [World.setCell], fun k _ hk => Below.heap_setCell _ _ _ _ (fun e => hk (by rw [e]))⟩)
  · cases e
    exact ⟨hg1, _, 4, (0, 0), hc2.more, by decide⟩
end
end Go.Proofs.Ytcgpemefmakjiaa.PX
namespace Go.Proofs.Ytcgpemefmakjiaa.PX
open Go.RowKit Go.Shelf Go.Proofs.Ytcgpemefmakjiaa.Iter Go.Proofs.YtcgpemefmakjiaaW.PrintWords Go.Proofs.YtcgpemefmakjiaaW.PrintLast Go.Proofs.YtcgpemefmakjiaaW.PrintMore
set_option linter.unusedVariables false
set_option linter.unusedSimpArgs false
theorem int_row_at {w : World} {A : Option Addr} {n : Nat} {xs : List Int} (h : Kd.C (Kd.int .i64) w A n xs) (k : Nat) (hk : k < n) : ∃ ad, A = some ad ∧ w.cell? (ad.add k) = some (.int .i64 (rd xs k)) := by
  obtain ⟨ad, c, e, _, hK, hc0⟩ := Kd.C_get h (0 : Int) (k : Int) (by omega) (by omega); have hK' : c = [.int .i64 (rd xs k)] := hK; subst hK'; have := hc0 0 _ rfl; exact ⟨ad, e, by simpa [Kd.int, Kd.scalar] using this⟩
set_option maxHeartbeats 400000 in
theorem changes_any (kind m : Int) (A Ab : Option Addr) (na ca nb cb : Nat) (w : World) :
    Calls Try.prog 38 #[.int .i64 kind, .slice A na ca, .slice Ab nb cb, .int .i64 m] w fun e w' =>
      e = .returned (.func (.func 64) #[] #[.pointer (some ⟨w.heap.size + 3, 0, none⟩), .pointer (some ⟨w.heap.size + 1, 0, none⟩), .pointer (some ⟨w.heap.size + 2, 0, none⟩), .pointer (some ⟨w.heap.size, 0, none⟩)]) ∧
      w' = (((w.alloc (.cells #[.int .i64 kind] 3)).alloc (.cells #[.slice A na ca] 64)).alloc (.cells #[.slice Ab nb cb] 64)).alloc (.cells #[.int .i64 m] 3) := by
  go_enter Try.func38, Try.ntmps38
  go_wp2; go_ret; exact ⟨rfl, rfl⟩
def setsN (a b : List (List Int)) (i : Nat) : Nat := (setAll 0 a b i).length
theorem setAt_len (kind kind' : Int) (i i' : Nat) (ra rb : List Int) (k : Nat) : (setAt kind i ra rb k).length = (setAt kind' i' ra rb k).length := by unfold setAt; split <;> rfl
theorem setRow_len (kind kind' : Int) (i i' : Nat) (ra rb : List Int) (n : Nat) : (setRow kind i ra rb n).length = (setRow kind' i' ra rb n).length := by
  induction n with
  | zero => rfl
  | succ n ih => rw [setRow_snoc, setRow_snoc, List.length_append, List.length_append, ih, setAt_len kind kind' i i']
theorem setRow_le (kind : Int) (i : Nat) (ra rb : List Int) (n : Nat) : (setRow kind i ra rb n).length ≤ n := by
  induction n with
  | zero => simp [setRow]
  | succ n ih =>
    rw [setRow_snoc, List.length_append]
    have : (setAt kind i ra rb n).length ≤ 1 := by unfold setAt; split <;> simp
    omega
theorem setAll_len (kind kind' : Int) (a b : List (List Int)) (m : Nat) : (setAll kind a b m).length = (setAll kind' a b m).length := by
  induction m with
  | zero => rfl
  | succ m ih => rw [setAll_snoc, setAll_snoc, List.length_append, List.length_append, ih, setRow_len kind kind' m m]
def bestOf (a b : List (List Int)) : Nat → Int × Nat
  | 0 => ((a.length : Int) + b.length, 0)
  | i + 1 => if (setsN a b (i + 1) : Int) + a.length + b.length - 2 * ((i : Int) + 1) ≤ (bestOf a b i).1 then ((setsN a b (i + 1) : Int) + a.length + b.length - 2 * ((i : Int) + 1), i + 1) else bestOf a b i
def sameM (a b : List (List Int)) : Nat := (bestOf a b (min a.length b.length)).2
theorem bestOf_succ (a b : List (List Int)) (i : Nat) : bestOf a b (i + 1) = if (setsN a b (i + 1) : Int) + a.length + b.length - 2 * ((i : Int) + 1) ≤ (bestOf a b i).1 then ((setsN a b (i + 1) : Int) + a.length + b.length - 2 * ((i : Int) + 1), i + 1) else bestOf a b i := rfl
theorem bestOf_le (a b : List (List Int)) (n : Nat) : (bestOf a b n).2 ≤ n := by
  induction n with
  | zero => exact Nat.le_refl _
  | succ n ih =>
    rw [bestOf_succ]
    split
    (· simp only; omega); (· omega)
theorem bestOf_bd (a b : List (List Int)) (n : Nat) : (bestOf a b n).1 ≤ (a.length : Int) + b.length := by
  induction n with
  | zero => exact Int.le_refl _
  | succ n ih =>
    rw [bestOf_succ]
    split
    (· simp only; omega); (· omega)
theorem bestOf_lo (a b : List (List Int)) (n : Nat) : - 2 * (n : Int) ≤ (bestOf a b n).1 := by
  induction n with
  | zero => simp [bestOf]; omega
  | succ n ih =>
    rw [bestOf_succ]
    split
    (· simp only; omega); (· omega)
theorem setsN_snoc (a b : List (List Int)) (i : Nat) : setsN a b (i + 1) = setsN a b i + (setRow 0 i (rd_L1 a i) (rd_L1 b i) (rd_L1 a i).length).length := by simp [setsN, setAll_snoc]
set_option maxHeartbeats 2000000 in
set_option maxRecDepth 100000 in
theorem same_any (A Ab : Option Addr) (ca cb : Nat) (a b : List (List Int)) (w : World) (ha : Kd.C (Kd.slice 3 (Kd.int .i64)) w A a.length a) (hb : Kd.C (Kd.slice 3 (Kd.int .i64)) w Ab b.length b)
    (hla : a.length ≤ 100000) (hlb : b.length ≤ 100000) (hrow : ∀ i : Nat, i < a.length → i < b.length → (rd_L1 a i).length ≤ 100000 ∧ (rd_L1 a i).length ≤ (rd_L1 b i).length) :
    Calls Try.prog 39 #[.slice A a.length ca, .slice Ab b.length cb] w fun e w' => e = .returned (.int .i64 (sameM a b)) ∧ w = w' := by
  have HRA := Aside0.mk ha; have HRB := Aside0.mk hb; have HROW := Aside0.mk hrow; clear ha hb hrow; obtain ⟨mm, hmm, hm1, hm2⟩ : ∃ mm : Nat, mm = min a.length b.length ∧ mm ≤ a.length ∧ mm ≤ b.length := ⟨_, rfl, Nat.min_le_left _ _, Nat.min_le_right _ _⟩
  have HF : Hid (sameM a b = (bestOf a b mm).2) := by unfold Hid sameM; rw [hmm]
  have hm3 : b.length ≤ mm ∨ a.length ≤ mm := by omega
  clear hmm
  have hsum : ∀ i : Nat, i ≤ mm → setsN a b i ≤ 100000 * i := by
    intro i
    induction i with
    | zero => intro _; simp [setsN, setAll]
    | succ i ih =>
      intro hi; rw [setsN_snoc]; have h1 := setRow_le 0 i (rd_L1 a i) (rd_L1 b i) (rd_L1 a i).length; have h2 := HROW.out i (by omega) (by omega); have h3 := ih (by omega); omega
  have HSUM := Lib.hid hsum; clear hsum
  by_cases hba : b.length < a.length
  all_goals
    skip
    go_enter Try.func39, Try.ntmps39
    go_wp2
    go_loop [22, 5, 6, 7] (fun v22 v5 v6 v7 => ∃ i : Nat, i ≤ mm ∧ v22 = .int .i64 i ∧ v5 = .int .i64 (bestOf a b i).1 ∧ v6 = .int .i64 ((bestOf a b i).2 : Nat) ∧ v7 = .int .i64 (setsN a b i : Nat)) (fun v22 _ _ _ => mm - (intOf v22).toNat)
    case atStart => exact ⟨0, Nat.zero_le _, rfl, rfl, rfl, by simp [setsN, setAll]⟩
    case round =>
      obtain ⟨i, hi, rfl, rfl, rfl, rfl⟩ := hrel
      by_cases hlt : i < mm
      · obtain ⟨ad, A0, c0, e0, hx0, hl0, hi0⟩ := at_L1 HRA.out i (by omega) (by omega)
        obtain ⟨bd, B0, d0, f0, hy0, hm0, hj0⟩ := at_L1 HRB.out i (by omega) (by omega)
        cases e0
        cases f0
        rw [Int.toNat_natCast] at hx0 hy0; obtain ⟨hr1, hr2⟩ := HROW.out i (by omega) (by omega); have hs0 := HSUM.out i hi; have hrb := hj0.2.1; have hbl := bestOf_lo a b i; have hbb := bestOf_bd a b i; have HI0 := Aside0.mk hi0; have HJ0 := Aside0.mk hj0; clear hl0 hm0 hi0 hj0; have HSN := Lib.hid (setsN_snoc a b i); have HBS := Lib.hid (bestOf_succ a b i)
        have hia : i < a.length := by omega
        have hib : i < b.length := by omega
        go_wp2
        go_loop [30, 7] (fun v30 v7 => ∃ k : Nat, k ≤ (rd_L1 a i).length ∧ v30 = .int .i64 k ∧ v7 = .int .i64 ((setsN a b i + (setRow 0 i (rd_L1 a i) (rd_L1 b i) k).length : Nat) : Int)) (fun v30 _ => (rd_L1 a i).length - (intOf v30).toNat)
        case atStart => exact ⟨0, Nat.zero_le _, rfl, by simp [setRow]⟩
        case round =>
          obtain ⟨k, hk, rfl, rfl⟩ := hrel; have hsr := setRow_le 0 i (rd_L1 a i) (rd_L1 b i) k
          by_cases hkl : k < (rd_L1 a i).length
          · obtain ⟨ak, rfl, hak⟩ := int_row_at HI0.out k hkl
            obtain ⟨bk, rfl, hbk⟩ := int_row_at HJ0.out k (by omega); have HRS := Lib.hid (setRow_snoc 0 i (rd_L1 a i) (rd_L1 b i) k)
            by_cases hd : rd (rd_L1 b i) k = rd (rd_L1 a i) k
            · have HE : Hid (setAt 0 i (rd_L1 a i) (rd_L1 b i) k = []) := if_pos hd
              have hd1 : (rd (rd_L1 b i) (k : Int) != rd (rd_L1 a i) (k : Int)) = false := by rw [hd]; simp
              clear hd; go_wp2
              go_round
              case rel => exact ⟨k + 1, by omega, by go_num, by rw [HRS.out, HE.out, List.append_nil]⟩
              case measure => simp [intOf] <;> omega
            · have HE : Hid (setAt 0 i (rd_L1 a i) (rd_L1 b i) k = [⟨0, i, k, rd (rd_L1 a i) k, rd (rd_L1 b i) k, []⟩]) := if_neg hd
              have hd1 : (rd (rd_L1 b i) (k : Int) != rd (rd_L1 a i) (k : Int)) = true := by simpa using hd
              clear hd
              have hadd : ((setsN a b i + (setRow 0 i (rd_L1 a i) (rd_L1 b i) k).length : Nat) : Int) ≤ 100000000000 := by omega
              go_wp2
              go_round
              case rel => exact ⟨k + 1, by omega, by go_num, by rw [HRS.out, HE.out, List.length_append, List.length_singleton]; go_num⟩
              case measure => simp [intOf] <;> omega
          · have hkk : k = (rd_L1 a i).length := by omega
            subst hkk; have hs1 := HSUM.out (i + 1) (by omega); rw [← HSN.out]; generalize hsn : setsN a b (i + 1) = sn at HBS hs1 ⊢; have HSNE := Lib.hid hsn; clear hsn HSN hsr
            by_cases hle : (sn : Int) + (a.length : Int) + (b.length : Int) - 2 * ((i : Int) + 1) ≤ (bestOf a b i).1
            · have HB1 : Hid (bestOf a b (i + 1) = ((sn : Int) + a.length + b.length - 2 * ((i : Int) + 1), i + 1)) := HBS.out.trans (if_pos hle)
              go_wp2
              go_round
              case rel => exact ⟨i + 1, by omega, by go_num, by rw [HB1.out], by rw [HB1.out]; go_num, by rw [HSNE.out]⟩
              case measure => simp [intOf] <;> omega
            · have HB1 : Hid (bestOf a b (i + 1) = bestOf a b i) := HBS.out.trans (if_neg hle)
              go_wp2
              go_round
              case rel => exact ⟨i + 1, by omega, by go_num, by rw [HB1.out], by rw [HB1.out], by rw [HSNE.out]⟩
              case measure => simp [intOf] <;> omega
      · have hii : i = mm := by omega
        subst hii
        have hnb : ¬ ((i : Int) < (if b.length < a.length then (b.length : Int) else (a.length : Int))) := by split <;> omega
        clear hnb; have hn1 : b.length ≤ i ∨ a.length ≤ i := hm3; go_wp2; go_ret; exact ⟨by rw [HF.out]; rfl, rfl⟩
end Go.Proofs.Ytcgpemefmakjiaa.PX
namespace Go.Proofs.Ytcgpemefmakjiaa.PX
open Go.RowKit Go.Shelf Go.Proofs.Ytcgpemefmakjiaa.Iter Go.Proofs.YtcgpemefmakjiaaW.PrintWords Go.Proofs.YtcgpemefmakjiaaW.PrintLast Go.Proofs.YtcgpemefmakjiaaW.PrintMore
set_option linter.unusedVariables false
set_option linter.unusedSimpArgs false
attribute [local go_sem] Oper.semAt_some
theorem row_at {w : World} {A : Option Addr} {n : Nat} {xs : List Int} (h : Kd.C (Kd.int .i64) w A n xs) (k : Nat) (hk : k < n) : ∃ ad, A = some ad ∧ w.cell? (ad.add k) = some (.int .i64 (rd xs k)) := by
  obtain ⟨ad, c, e, _, hK, hc0⟩ := Kd.C_get h (0 : Int) (k : Int) (by omega) (by omega); have hK' : c = [.int .i64 (rd xs k)] := hK; subst hK'; have := hc0 0 _ rfl; exact ⟨ad, e, by simpa [Kd.int, Kd.scalar] using this⟩
set_option maxHeartbeats 2000000 in
set_option maxRecDepth 100000 in
theorem changes1_iterates (n : Nat) (w0 W1 : World) (l : Nat) (kind : Int) (m : Nat) (A Ab : Option Addr) (ca cb : Nat) (a b : List (List Int)) (bm ba bb bk : Nat)
    (hm_ : W1.heap[bm]? = some (.cells #[.int .i64 m] 3 (0, 0))) (ha_ : W1.heap[ba]? = some (.cells #[.slice A a.length ca] 64 (0, 0))) (hb_ : W1.heap[bb]? = some (.cells #[.slice Ab b.length cb] 64 (0, 0))) (hk_ : W1.heap[bk]? = some (.cells #[.int .i64 kind] 3 (0, 0)))
    (hbel : Below w0.heap.size w0 W1) (ha : Kd.C (Kd.slice 3 (Kd.int .i64)) w0 A a.length a) (hb : Kd.C (Kd.slice 3 (Kd.int .i64)) w0 Ab b.length b)
    (hma : m ≤ a.length) (hmb : m ≤ b.length) (hrow : ∀ i : Nat, i < m → (rd_L1 a i).length ≤ (rd_L1 b i).length) (hla : ∀ i : Nat, i < a.length → (rd_L1 a i).length < 17592186044416) (hlb : ∀ i : Nat, i < b.length → (rd_L1 b i).length < 17592186044416)
    (hla2 : a.length ≤ 100000) (hlb2 : b.length ≤ 100000) (hra2 : ∀ i : Nat, i < m → (rd_L1 a i).length ≤ 100000) :
    Iterates Fence.wide n Try.prog 64 #[.pointer (some ⟨bm, 0, none⟩), .pointer (some ⟨ba, 0, none⟩), .pointer (some ⟨bb, 0, none⟩), .pointer (some ⟨bk, 0, none⟩)] Yd.enc (Yd.T w0.heap.size) (fun xs _ => xs.map (·.1) = chgs kind a b m) 100000000000 w0.heap.size [30, 61] [4] l W1 := by
  intro J hJ hY h0
  have hsum : ∀ i : Nat, i ≤ m → (setAll kind a b i).length ≤ 100000 * i := by
    intro i
    induction i with
    | zero => intro _; simp [setAll]
    | succ i ih =>
      intro hi; rw [setAll_snoc, List.length_append]; have h1 := setRow_le kind i (rd_L1 a i) (rd_L1 b i) (rd_L1 a i).length; have h2 := hra2 i (by omega); have h3 := ih (by omega); omega
  have HSUM := Aside0.mk hsum; have HRA2 := Aside0.mk hra2; clear hsum hra2; have hla1 := ha.2.1; have hlb1 := hb.2.1; have HRA := Aside0.mk ha; have HRB := Aside0.mk hb; have HJ := Aside0.mk hJ; have HY := Aside0.mk hY; have HROW := Aside0.mk hrow; have HLA := Aside0.mk hla; have HLB := Aside0.mk hlb
  have HC0 := Aside0.mk (show Ctx w0 l kind m A Ab ca cb a b bm ba bb bk (W1.heap.size + 1) W1.heap.size ((W1.alloc (.cells #[.func (.yield l) #[] #[]] 104)).alloc (.cells #[.bool true] 4)) from by
    have hb2 : Below W1.heap.size W1 ((W1.alloc (.cells #[.func (.yield l) #[] #[]] 104)).alloc (.cells #[.bool true] 4)) := below_alloc (below_alloc (Below.refl _ _) _) _
    have q : ∀ i o, W1.heap[i]? = some o → ((W1.alloc (.cells #[.func (.yield l) #[] #[]] 104)).alloc (.cells #[.bool true] 4)).heap[i]? = some o := fun i o hi => (hb2.block i (Array.getElem?_eq_some_iff.1 hi).1).trans hi
    refine ⟨q _ _ hm_, q _ _ ha_, q _ _ hb_, q _ _ hk_, ?_, ?_, hbel.trans (hb2.mono hbel.size)⟩
    · have := heap_alloc_new (W1.alloc (.cells #[.func (.yield l) #[] #[]] 104)) (.cells #[.bool true] 4)
      rwa [World.size_alloc] at this
    · exact (Below.heap_alloc _ _ _ (by simp)).trans (heap_alloc_new W1 _))
  have HJ0 := Aside0.mk (show J [] ((W1.alloc (.cells #[.func (.yield l) #[] #[]] 104)).alloc (.cells #[.bool true] 4)) from hJ _ _ _ (hJ _ _ _ h0 (StepC.alloc _ _ _ _)) (StepC.alloc _ _ _ _)); have hsz := hbel.size; have hcm := cell_of_row _ _ 0 _ 3 (0, 0) HC0.out.m_; have hfm := cell_of_row _ _ 0 _ 4 (0, 0) HC0.out.more; clear ha hb hJ hY hrow hla hlb h0 hm_ ha_ hb_ hk_; refine callsIn_of_wp Try.func64 rfl trivial ?_ rfl; simp only [Try.ntmps64, List.size_toArray, List.length_cons, List.length_nil, Nat.reduceAdd, Nat.reduceSub, Array.replicate_succ, Array.replicate_zero, List.push_toArray, List.append_toArray, List.nil_append, List.cons_append]
  gi_wp2
  gi_loopw [15] (fun v wr => ∃ (i : Nat) (pre : List Yd), i ≤ m ∧ v = .int .i64 i ∧ Aside0 (pre.map (·.1) = setAll kind a b i) ∧ Aside0 (J pre wr) ∧ Aside0 (Ctx w0 l kind m A Ab ca cb a b bm ba bb bk (W1.heap.size + 1) W1.heap.size wr)) (fun v _ => m - (intOf v).toNat)
  case atStart => exact ⟨0, [], Nat.zero_le _, rfl, ⟨by simp [setAll]⟩, HJ0, HC0⟩
  case round =>
    obtain ⟨i, pre, hi, rfl, HP, HJi, HC⟩ := hrel; clear HJ0 HC0 hcm hfm
    by_cases hlt : i < m
    · obtain ⟨wo, rfl⟩ : ∃ wo : World, wo = wr := ⟨_, rfl⟩
      obtain ⟨ad, A0, c0, e0, hx0, hl0, hi0⟩ := at_L1 HRA.out i (by omega) (by omega)
      cases e0
      rw [Int.toNat_natCast] at hx0; have hx1 : wo.cell? (ad.add i) = some (.slice A0 (rd_L1 a i).length c0) := (HC.out.bel.cell (World.block_lt_of_cell? w0 _ hx0)).trans hx0; have hca := cell_of_row _ _ 0 _ 64 (0, 0) HC.out.a_; have hra := hi0.2.1; have HI0 := Aside0.mk hi0; have HX0 := Aside0.mk hx0; clear hx0 hl0 hi0
      gi_wp2
      gi_loopw [23] (fun v wr => ∃ (k : Nat) (pre : List Yd), k ≤ (rd_L1 a i).length ∧ v = .int .i64 k ∧ Aside0 (pre.map (·.1) = setAll kind a b i ++ setRow kind i (rd_L1 a i) (rd_L1 b i) k) ∧ Aside0 (J pre wr) ∧ Aside0 (Ctx w0 l kind m (some ad) Ab ca cb a b bm ba bb bk (W1.heap.size + 1) W1.heap.size wr)) (fun v _ => (rd_L1 a i).length - (intOf v).toNat)
      case atStart => exact ⟨0, pre, Nat.zero_le _, rfl, ⟨by rw [HP.out]; simp [setRow]⟩, HJi, HC⟩
      case round =>
        clear HP HJi HC hca hx1; obtain ⟨k, pre, hk, rfl, HP, HJi, HC⟩ := hrel
        by_cases hkl : k < (rd_L1 a i).length
        · obtain ⟨bd, B0, d0, f0, hy0, hm0, hj0⟩ := at_L1 HRB.out i (by omega) (by omega)
          cases f0
          rw [Int.toNat_natCast] at hy0; have hrw := HROW.out i hlt; have hrb := hj0.2.1; obtain ⟨ak, rfl, hak⟩ := row_at HI0.out k hkl; obtain ⟨bk', rfl, hbk⟩ := row_at hj0 k (by omega); have hca := cell_of_row _ _ 0 _ 64 (0, 0) HC.out.a_; have hcb := cell_of_row _ _ 0 _ 64 (0, 0) HC.out.b_; have hck := cell_of_row _ _ 0 _ 3 (0, 0) HC.out.k_; have hx1 : wr.cell? (ad.add i) = some (.slice (some ak) (rd_L1 a i).length c0) := (HC.out.bel.cell (World.block_lt_of_cell? w0 _ HX0.out)).trans HX0.out; have hy1 : wr.cell? (bd.add i) = some (.slice (some bk') (rd_L1 b i).length d0) := (HC.out.bel.cell (World.block_lt_of_cell? w0 _ hy0)).trans hy0; have hak1 : wr.cell? (ak.add k) = some (.int .i64 (rd (rd_L1 a i) k)) := (HC.out.bel.cell (World.block_lt_of_cell? w0 _ hak)).trans hak; have hbk1 : wr.cell? (bk'.add k) = some (.int .i64 (rd (rd_L1 b i) k)) := (HC.out.bel.cell (World.block_lt_of_cell? w0 _ hbk)).trans hbk; clear hy0 hm0 hj0 hak hbk
          by_cases hd : rd (rd_L1 b i) k = rd (rd_L1 a i) k
          · have HE : Hid (setAt kind i (rd_L1 a i) (rd_L1 b i) k = []) := if_pos hd
            have hd1 : (rd (rd_L1 b i) (k : Int) != rd (rd_L1 a i) (k : Int)) = false := by rw [hd]; simp
            clear hd
            gi_wp2
            go_roundw
            case rel => exact ⟨k + 1, pre, by omega, by go_num, ⟨by rw [HP.out, setRow_snoc, HE.out, List.append_nil]⟩, HJi, HC⟩
            case measure => simp [intOf] <;> omega
          · have HE : Hid (setAt kind i (rd_L1 a i) (rd_L1 b i) k = [⟨kind, i, k, rd (rd_L1 a i) k, rd (rd_L1 b i) k, []⟩]) := if_neg hd
            have hd1 : (rd (rd_L1 b i) (k : Int) != rd (rd_L1 a i) (k : Int)) = true := by simpa using hd
            clear hd
            have HLEN := Aside0.mk (show pre.length < 100000000000 from by
              have e := congrArg List.length HP.out; rw [List.length_map, List.length_append] at e; have h1 := HSUM.out i (by omega); have h2 := setRow_le kind i (rd_L1 a i) (rd_L1 b i) k; have h3 := HRA2.out i hlt
              omega)
            have HS := Aside0.mk (fun n' => say_step (n := n) J HJ.out HY.out (by omega) hsz pre (⟨kind, i, k, rd (rd_L1 a i) k, rd (rd_L1 b i) k, []⟩, .slice none 0 0) wr.drew
              (HJ.out _ _ _ HJi.out ⟨none, grown_of_below (below_drew (Below.refl _ _)) none, fun r e => by cases e⟩) HLEN.out (HC.out.later (below_drew (Below.refl _ _))) (Kd.R_nil _ _ _ _ _) n')
            gi_wp2
            gi_region_with (refine ⟨trivial, (fun h => by cases h), ?_⟩; refine (HS.out _).mono ?_; rintro e W' ⟨⟨v, rfl⟩, hj2, hc2⟩; have HJ2 := Aside0.mk hj2; have HC2 := Aside0.mk hc2; clear hj2 hc2)
            all_goals
              clear HJi HC hca hcb hck hx1 hy1 hak1 hbk1
              gi_wp2
              go_roundw
              case rel => exact ⟨k + 1, pre ++ [_], by omega, by go_num, ⟨by rw [List.map_append, HP.out, setRow_snoc, HE.out, List.append_assoc]; rfl⟩, HJ2, HC2⟩
              case measure => simp [intOf] <;> omega
        · gi_wp2
          go_roundw
          case rel => exact ⟨i + 1, pre, by omega, by go_num, ⟨by rw [HP.out, setAll_snoc]; congr 2; omega⟩, HJi, HC⟩
          case measure => simp [intOf] <;> omega
    · have hca := cell_of_row _ _ 0 _ 64 (0, 0) HC.out.a_
      have hcm := cell_of_row _ _ 0 _ 3 (0, 0) HC.out.m_
      have him : i = m := by omega
      subst him; have hq0 : ((a.length : Int) - 1) = ((a.length : Nat) : Int) - 1 := rfl
      gi_wp2
      gi_loopw [11] (fun v wr => ∃ (p : Nat) (pre : List Yd), i ≤ p ∧ p ≤ a.length ∧ v = .int .i64 ((p : Int) - 1) ∧ Aside0 (pre.map (·.1) = setAll kind a b i ++ takeL kind a (a.length - p)) ∧ Aside0 (J pre wr) ∧ Aside0 (Ctx w0 l kind i A Ab ca cb a b bm ba bb bk (W1.heap.size + 1) W1.heap.size wr)) (fun v _ => (intOf v + 1).toNat)
      case atStart => exact ⟨a.length, pre, by omega, Nat.le_refl _, rfl, ⟨by rw [HP.out]; simp [takeL]⟩, HJi, HC⟩
      case round =>
        clear HP HJi HC hca hcm; obtain ⟨p, pre, hp1, hp2, rfl, HP, HJi, HC⟩ := hrel
        by_cases hpm : i < p
        · obtain ⟨q, rfl⟩ : ∃ q, p = q + 1 := ⟨p - 1, by omega⟩
          have hcast : (((q + 1 : Nat) : Int) - 1) = (q : Int) := by omega
          rw [hcast]; clear hcast
          have HT : Hid (takeL kind a (a.length - q) = takeL kind a (a.length - (q + 1)) ++ [⟨kind, q, -2, 0, 0, rd_L1 a q⟩]) := by
            have e : a.length - q = (a.length - (q + 1)) + 1 := by omega
            have e2 : ((a.length : Int) - 1 - ((a.length - (q + 1) : Nat) : Int)) = q := by omega
            unfold Hid; rw [e, takeL_snoc, e2]
          obtain ⟨ad, A0, c0, e0, hx0, hl0, hi0⟩ := at_L1 HRA.out q (by omega) (by omega)
          cases e0
          rw [Int.toNat_natCast] at hx0; have hx1 : wr.cell? (ad.add q) = some (.slice A0 (rd_L1 a q).length c0) := (HC.out.bel.cell (World.block_lt_of_cell? w0 _ hx0)).trans hx0; have hca := cell_of_row _ _ 0 _ 64 (0, 0) HC.out.a_; have hcm := cell_of_row _ _ 0 _ 3 (0, 0) HC.out.m_; have hck := cell_of_row _ _ 0 _ 3 (0, 0) HC.out.k_; have hra := hi0.2.1; have HCl := Aside0.mk (fun n' => callsIn_wide (n := n').2 (slices_Clone_int_int.calls A0 c0 (rd_L1 a q) (rd_L1 a q) wr.drew (Kd.C_below (Kd.C_below hi0 HC.out.bel) (below_drew (Below.refl _ _))) hl0 (if_pos (HLA.out q (by omega)))))
          have HLEN := Aside0.mk (show pre.length < 100000000000 from by
            have e := congrArg List.length HP.out; rw [List.length_map, List.length_append] at e; have h1 := HSUM.out i (by omega)
            have h2 : (takeL kind a (a.length - (q + 1))).length = a.length - (q + 1) := by simp [takeL]
            omega)
          have HS := Aside0.mk (fun (W : World) (hw : Below wr.heap.size wr W) (v0 : Value) (hR : Kd.R (Kd.int .i64) 3 W wr.heap.size (fun _ => True) v0 (rd_L1 a q)) n' => say_step (n := n) J HJ.out HY.out (by omega) hsz pre (⟨kind, q, -2, 0, 0, rd_L1 a q⟩, v0) W
            (HJ.out _ _ _ HJi.out ⟨none, grown_of_below hw none, fun r e => by cases e⟩) HLEN.out (HC.out.later hw) (Kd.R_lower hR HC.out.bel.size) n')
          have HCK := Aside0.mk (fun (W : World) (hw : Below wr.heap.size wr W) => (hw.cell (p := ⟨bk, 0, none⟩) (World.block_lt_of_cell? wr _ hck)).trans hck); clear hx0 hl0 hi0
          gi_wp2
          gi_region_with (refine ⟨trivial, (fun h => by cases h), ?_⟩; first
            | ((with_reducible refine (HCl.out _).mono ?_); rintro e W2 ⟨v0, rfl, hR, hB2⟩; obtain ⟨Av, cv, rfl⟩ := Kd.R_slice hR; have hB3 : Below wr.heap.size wr W2 := (below_drew (Below.refl _ wr)).trans hB2; have hck2 := HCK.out W2 hB3; have HB3 := Aside0.mk hB3; have HR3 := Aside0.mk hR; clear hB2 hB3 hR)
            | (refine (HS.out _ HB3.out _ HR3.out _).mono ?_; rintro e W' ⟨⟨v, rfl⟩, hj2, hc2⟩; have HJ2 := Aside0.mk hj2; have HC2 := Aside0.mk hc2; clear hj2 hc2))
          all_goals
            clear HJi HC hca hcm hck hx1
            gi_wp2
            go_roundw
            case rel => exact ⟨q, pre ++ [_], by omega, by omega, by go_num, ⟨by rw [List.map_append, HP.out, HT.out, List.append_assoc]; rfl⟩, HJ2, HC2⟩
            case measure => simp [intOf] <;> omega
        · have hpi : p = i := by omega
          subst hpi; have hcm := cell_of_row _ _ 0 _ 3 (0, 0) HC.out.m_
          have hneg : ¬ ((p : Int) ≤ (p : Int) - 1) := by omega
          gi_wp2
          gi_loopw [12] (fun v wr => ∃ (j : Nat) (pre : List Yd), p + j ≤ b.length ∧ v = .int .i64 ((p : Int) + j) ∧ Aside0 (pre.map (·.1) = setAll kind a b p ++ takeL kind a (a.length - p) ++ addL kind b p j) ∧ Aside0 (J pre wr) ∧ Aside0 (Ctx w0 l kind p A Ab ca cb a b bm ba bb bk (W1.heap.size + 1) W1.heap.size wr)) (fun v _ => b.length - (intOf v).toNat)
          case atStart => exact ⟨0, pre, by omega, by simp, ⟨by rw [HP.out]; simp [addL]⟩, HJi, HC⟩
          case round =>
            clear HP HJi HC hcm; obtain ⟨j, pre, hj, rfl, HP, HJi, HC⟩ := hrel; have hcb := cell_of_row _ _ 0 _ 64 (0, 0) HC.out.b_; have hck := cell_of_row _ _ 0 _ 3 (0, 0) HC.out.k_
            by_cases hjl : p + j < b.length
            · have hcast : ((p : Int) + (j : Int)) = ((p + j : Nat) : Int) := by omega
              obtain ⟨ad, A0, c0, e0, hx0, hl0, hi0⟩ := at_L1 HRB.out ((p + j : Nat) : Int) (by omega) (by omega)
              cases e0
              rw [Int.toNat_natCast] at hx0
              have HT : Hid (addL kind b p (j + 1) = addL kind b p j ++ [⟨kind, ((p + j : Nat) : Int), -1, 0, 0, rd_L1 b ((p + j : Nat) : Int)⟩]) := by
                unfold Hid; rw [addL_snoc, hcast]
              rw [hcast]; clear hcast; have HLQ := Aside0.mk (HLB.out (p + j) hjl); obtain ⟨q, hq⟩ : ∃ q, q = p + j := ⟨_, rfl⟩; rw [← hq] at hx0 hi0 hl0 HT HLQ hjl ⊢; have HQ := Lib.hid hq; clear hq; have hx1 : wr.cell? (ad.add q) = some (.slice A0 (rd_L1 b q).length c0) := (HC.out.bel.cell (World.block_lt_of_cell? w0 _ hx0)).trans hx0; have hrb := hi0.2.1; have HCl := Aside0.mk (fun n' => callsIn_wide (n := n').2 (slices_Clone_int_int.calls A0 c0 (rd_L1 b q) (rd_L1 b q) wr.drew (Kd.C_below (Kd.C_below hi0 HC.out.bel) (below_drew (Below.refl _ _))) hl0 (if_pos HLQ.out)))
              have HLEN := Aside0.mk (show pre.length < 100000000000 from by
                have e := congrArg List.length HP.out; rw [List.length_map, List.length_append, List.length_append] at e; have h1 := HSUM.out p (by omega)
                have h2 : (takeL kind a (a.length - p)).length = a.length - p := by simp [takeL]
                have h3 : (addL kind b p j).length = j := by simp [addL]
                omega)
              have HS := Aside0.mk (fun (W : World) (hw : Below wr.heap.size wr W) (v0 : Value) (hR : Kd.R (Kd.int .i64) 3 W wr.heap.size (fun _ => True) v0 (rd_L1 b q)) n' => say_step (n := n) J HJ.out HY.out (by omega) hsz pre (⟨kind, q, -1, 0, 0, rd_L1 b q⟩, v0) W
                (HJ.out _ _ _ HJi.out ⟨none, grown_of_below hw none, fun r e => by cases e⟩) HLEN.out (HC.out.later hw) (Kd.R_lower hR HC.out.bel.size) n')
              have HCK := Aside0.mk (fun (W : World) (hw : Below wr.heap.size wr W) => (hw.cell (p := ⟨bk, 0, none⟩) (World.block_lt_of_cell? wr _ hck)).trans hck); clear hx0 hl0 hi0
              gi_wp2
              gi_region_with (refine ⟨trivial, (fun h => by cases h), ?_⟩; first
                | ((with_reducible refine (HCl.out _).mono ?_); rintro e W2 ⟨v0, rfl, hR, hB2⟩; obtain ⟨Av, cv, rfl⟩ := Kd.R_slice hR; have hB3 : Below wr.heap.size wr W2 := (below_drew (Below.refl _ wr)).trans hB2; have hck2 := HCK.out W2 hB3; have HB3 := Aside0.mk hB3; have HR3 := Aside0.mk hR; clear hB2 hB3 hR)
                | (refine (HS.out _ HB3.out _ HR3.out _).mono ?_; rintro e W' ⟨⟨v, rfl⟩, hj2, hc2⟩; have HJ2 := Aside0.mk hj2; have HC2 := Aside0.mk hc2; clear hj2 hc2))
              all_goals
                clear HJi HC hcb hck hx1
                gi_wp2
                go_roundw
                case rel => exact ⟨j + 1, pre ++ [_], by have := HQ.out; omega, by have := HQ.out; rw [show (p : Int) + ((j + 1 : Nat) : Int) = (q : Int) + 1 from by omega], ⟨by rw [List.map_append, HP.out, HT.out, ← List.append_assoc]; rfl⟩, HJ2, HC2⟩
                case measure => simp [intOf] <;> omega
            · have hjb : p + j = b.length := by omega
              have HF : Hid (pre.map (·.1) = chgs kind a b p) := by
                unfold Hid; rw [HP.out, chgs, show j = b.length - p from by omega]
              have hneg2 : ¬ ((p : Int) + j < (b.length : Int)) := by omega
              clear hjb
              gi_wp2
              go_end0
              exact ⟨⟨_, rfl⟩, pre, HF.out, HJi.out⟩
end Go.Proofs.Ytcgpemefmakjiaa.PX
namespace Go.Proofs.Ytcgpemefmakjiaa.Iter
open Go.RowKit Go.Proofs.YtcgpemefmakjiaaW.PrintWords
def marksOf (Ds : List Nat) : List Deferred := Ds.map fun D => { target := .collected D, args := #[] }
def Marked (B : Nat) (Ds : List Nat) (W : World) : Prop := Ds.Nodup ∧ ∀ D, D ∈ Ds → B ≤ D ∧ W.heap[D]? = some (.deferred (some []))
theorem Marked.nil (B : Nat) (W : World) : Marked B [] W := ⟨List.nodup_nil, fun D h => by cases h⟩
theorem Marked.later {B : Nat} {Ds : List Nat} {W W' : World} (h : Marked B Ds W) (hk : ∀ (i : Nat) (o : Obj), W.heap[i]? = some o → o.isCells = false → W'.heap[i]? = some o) : Marked B Ds W' :=
  ⟨h.1, fun D hD => ⟨(h.2 D hD).1, hk _ _ (h.2 D hD).2 rfl⟩⟩
theorem Marked.below {B : Nat} {Ds : List Nat} {W W' : World} (h : Marked B Ds W) (hk : Below W.heap.size W W') : Marked B Ds W' :=
  h.later fun i _ hi _ => (hk.block i (Array.getElem?_eq_some_iff.1 hi).1).trans hi
theorem Marked.lt {B : Nat} {Ds : List Nat} {W : World} (h : Marked B Ds W) : ∀ D, D ∈ Ds → D < W.heap.size := fun D hD => (Array.getElem?_eq_some_iff.1 (h.2 D hD).2).1
theorem Marked.cons {B : Nat} {Ds : List Nat} {W : World} {D : Nat} (h : Marked B Ds W) (hB : B ≤ D) (hD : W.heap[D]? = some (.deferred (some []))) (hn : D ∉ Ds) : Marked B (D :: Ds) W :=
  ⟨List.nodup_cons.2 ⟨hn, h.1⟩, fun E hE => by
    rcases List.mem_cons.1 hE with e | e
    (· subst e; exact ⟨hB, hD⟩)
    · exact h.2 E e⟩
theorem leaves_marks {F : Fence} {n : Nat} {P : Program} {fn : Func} {tmps : Array Value} {R : Ending → World → Prop} {B : Nat} (G : World → Prop)
    (hG : ∀ A C, G A → StepI B [] A C → G C) (hR : ∀ A, G A → LeavesIn F n P fn tmps R [] .returning A) : ∀ (Ds : List Nat) (W : World), Marked B Ds W → G W → LeavesInM F n P fn tmps R (marksOf Ds) .returning W
  | [], W, _, h => hR W h
  | D :: Ds, W, hm, h => by
    obtain ⟨hB, hD⟩ := hm.2 D List.mem_cons_self; have hn := List.nodup_cons.1 hm.1; refine ⟨by simp, .inl ⟨D, _, rfl, run_takeDeferred hD, ?_⟩⟩; refine leaves_marks G hG hR Ds _ ⟨hn.2, fun E hE => ?_⟩ (hG _ _ h (StepI.putObj _ hB hD rfl)); obtain ⟨h1, h2⟩ := hm.2 E (List.mem_cons_of_mem _ hE); exact ⟨h1, (World.putObj_heap_other (fun (e : E = D) => hn.1 (e ▸ hE))).trans h2⟩
theorem R_append_in {α : Type} (d : Kd α) {F : Fence} {n : Nat} {P : Program} {ops : Array Oper} {rest : List Oper} {o : Oper} {a : Act} {Q : Exit → Act → World → Prop} {W : World} (base : Nat) (hgd : o.guard = none) (s x : Operand) (t e : TypeId) (z : Value) (bytes : Nat)
    (ho : o.op = .call { callee := .builtin .append, args := #[s, x], argTypes := #[t, t] })
    (ht : P.underlying t = some (.slice e)) (hinfo : (P.info? e).map (fun i => (i.zero, i.size, i.bytes)) = some (some z, d.sz, bytes)) (hz : z.cells.size = d.sz) (hs0 : 0 < d.sz) (hb0 : 0 < bytes)
    (v : Value) (xs : List α) (p : α) (cs : List Value) (ok okp : Nat → Prop) (hs : a.eval s = v) (hx : a.eval x = .slice (some ⟨W.heap.size, 0, none⟩) 1 1) (hp : d.M W base okp p cs) (hokp : ∀ k, okp k → ok k ∧ some k ≠ v.ownBlock) (hfresh : ∀ k, W.heap.size ≤ k → ok k)
    (HO : d.R e W base ok v xs) (hbase : base ≤ W.heap.size) (hl : (xs.length + 1) * bytes ≤ 140737488355328)
    (h : ∀ v1 w1, d.R e w1 base ok v1 (xs ++ [p]) → (W.alloc (.cells cs.toArray e)).grownBy w1 v.ownBlock → (∃ A c, v1 = .slice A (xs.length + 1) c) → wpListIn F n P ops Q rest (a.put o.dst v1) w1) :
    wpListIn F n P ops Q (o :: rest) a (W.alloc (.cells cs.toArray e)) := by
  obtain ⟨i0, hi, hzz⟩ := Option.map_eq_some_iff.1 hinfo; simp only [Prod.mk.injEq] at hzz; obtain ⟨hz0, hz1, hz2⟩ := hzz; obtain ⟨h0, inner, hown, hr⟩ := HO; have hal : Below W.heap.size W (W.alloc (.cells cs.toArray e)) := (Below.refl _ W).alloc (Nat.le_refl _) _; have hown' : (W.alloc (.cells cs.toArray e)).ownsRow base e d.sz v xs.length inner := hown.alloc _; have hcl : cs.length = d.sz := d.K_len (d.K_of_M hp); have hlen : xs.length + 1 ≤ 140737488355328 := Nat.le_trans (Nat.le_mul_of_pos_right _ hb0) hl
  obtain ⟨v', w', hrun, r1, r2, r3, r4⟩ := run_append_own_at (P := P) (W.alloc (.cells cs.toArray e)) base t o.type e i0 z d.sz bytes ht hi hz0 hz1 hz2 hz hs0 v xs.length inner hown' ⟨W.heap.size, 0, none⟩ 1 1 cs (by rw [hcl]; simp)
    (fun j u hu => by
      rw [show (⟨W.heap.size, 0, none⟩ : Addr).add j = ⟨W.heap.size, j, none⟩ from by unfold Addr.add; split <;> simp_all]; rw [cell_of_row _ _ j _ e (0, 0) (heap_alloc_new W _)]
      simpa using hu) (d.K_one (d.K_of_M hp)) (by simp only [maxLen]; omega) hl (by simp; omega)
  refine wpListIn_plain hgd fun K hK' => ?_
  have hR1 : d.R e w' base ok v' (xs ++ [p]) := by
    have hp' : d.M (W.alloc (.cells cs.toArray e)) base okp p cs := Kd.M_below hp hal; have hr' : Reps (d.M (W.alloc (.cells cs.toArray e)) base (fun k => ok k ∧ some k ≠ v.ownBlock)) d.sz xs inner := hr.imp_ (fun _ _ hq => Kd.M_below hq hal); refine Kd.R_appended h0 hr' hp' hokp (fun k hk => hfresh k (by simp at hk; omega)) r1 r2 ?_
    rcases r4 with r4 | r4
    (· exact .inl r4); (· exact .inr ⟨_, r4, Nat.le_refl _⟩)
  unfold Oper.wpIn; refine ⟨?_, ?_⟩
  · simp [Oper.about, ho, resolve, Target.leads, Sem.run_pure]
  · rw [Oper.semAt_plain F _ _ (by rw [ho]; intro c hc'; cases hc')]
    simp [execOp, ho, resolve, invoke, builtin, hs, hx, hrun, Result.andThen]
    obtain ⟨A1, c1, e1⟩ := Kd.R_slice hR1; exact hK' _ _ (h v' w' hR1 r2 ⟨A1, c1, by rw [e1]; simp⟩)
end Go.Proofs.Ytcgpemefmakjiaa.Iter
namespace Go.Proofs.Ytcgpemefmakjiaa.PX
open Go.RowKit Go.Shelf Go.Proofs.Ytcgpemefmakjiaa.Iter Go.Proofs.YtcgpemefmakjiaaW.PrintWords Go.Proofs.YtcgpemefmakjiaaW.PrintLast Go.Proofs.YtcgpemefmakjiaaW.PrintMore
set_option linter.unusedVariables false
set_option linter.unusedSimpArgs false
attribute [local go_sem] Oper.semAt_some
def okK (l0 l1 : List (List (List Int))) (k : Nat) : Bool := !(decide (0 < (rd_L2 l0 k).length) && decide (0 < (rd_L2 l1 k).length) && (rd_L1 (rd_L2 l0 k) 0).length != (rd_L1 (rd_L2 l1 k) 0).length)
def diffL (l0 l1 : List (List (List Int))) (n : Nat) : List S61 := (List.range n).flatMap fun (k : Nat) => chgs k (rd_L2 l0 k) (rd_L2 l1 k) (sameM (rd_L2 l0 k) (rd_L2 l1 k))
theorem diffL_snoc (l0 l1 : List (List (List Int))) (n : Nat) : diffL l0 l1 (n + 1) = diffL l0 l1 n ++ chgs n (rd_L2 l0 n) (rd_L2 l1 n) (sameM (rd_L2 l0 n) (rd_L2 l1 n)) := by simp [diffL, List.range_succ, List.flatMap_append]
def diffR (l0 l1 : List (List (List Int))) : List S61 × Int :=
  if shapedB l0 && shapedB l1 && decide (l0.length = l1.length) && (List.range l0.length).all (okK l0 l1) then (diffL l0 l1 l0.length, 0) else ([], 2)
def diff_Diff.f (l0 l1 : List (List (List Int))) : Option (List S61 × Int) := if sumLen l0 < 4611686018427387904 ∧ sumLen l1 < 4611686018427387904 then some (diffR l0 l1) else none
def DiffPost (w : World) (r : List S61 × Int) (e : Ending) (w' : World) : Prop := ∃ v0_ : Value, e = .returned (.tuple #[v0_, .int .i64 r.2]) ∧ Kd.N k61 61 w' w.heap.size (fun k_ => w.heap.size ≤ k_) v0_ r.1 ∧ Below w.heap.size w w'
theorem R_stepI {α : Type} {d : Kd α} {e : Nat} {W W' : World} {base B : Nat} {tI : List Nat} {ok : Nat → Prop} {v : Value} {xs : List α} (h : d.R e W base ok v xs) (hs : StepI B tI W W') (ht : ∀ q, q ∈ e :: d.E → q ∉ tI) : d.R e W' base ok v xs :=
  Kd.R_mono (Kd.R_move (Kd.R_bound h) (fun k hk => by
    obtain ⟨_, _, _, q, hq, cells, hc⟩ := hk; rw [hc]
    exact hs.other hc (ht q hq))) (fun _ hk => hk.1)
theorem _root_.Go.Proofs.Ytcgpemefmakjiaa.Iter.Marked.stepI {B B' : Nat} {Ds tI : List Nat} {W W' : World} (h : Marked B Ds W) (hs : StepI B' tI W W') (hlt : ∀ D, D ∈ Ds → D < B') : Marked B Ds W' :=
  ⟨h.1, fun D hD => ⟨(h.2 D hD).1, by
    obtain ⟨row, hg, hr⟩ := hs; refine (hg.block D (Array.getElem?_eq_some_iff.1 (h.2 D hD).2).1 (fun e => ?_)).trans (h.2 D hD).2; have := (hr D e.symm).1; have := hlt D hD
    omega⟩⟩
theorem M_ne {W : World} {base : Nat} {v : Value} {xs : List S61} {x : S61} {cs : List Value} (hp : k61.M W base (fun _ => True) x cs) (hr : Kd.R k61 61 W base (fun _ => True) v xs) : k61.M W base (fun k => True ∧ some k ≠ v.ownBlock) x cs :=
  k61.M_mono (fun k hk => ⟨trivial, fun e => by
    obtain ⟨_, _, _, q, hq, cells, hc⟩ := hk; obtain ⟨cells', hc'⟩ := Kd.R_typed hr k e.symm; rw [hc] at hc'
    injection hc' with hc'
    injection hc' with _ hc'
    subst hc'
    exact absurd hq (by decide)⟩) (k61.M_bound hp)
theorem diff_leave (w : World) (r : List S61 × Int) (tmps : Array Value) (Ds : List Nat) (W : World) (v0 : Value) (h4 : tmps.getD 4 undef = v0) (h5 : tmps.getD 5 undef = .int .i64 r.2) (hm : Marked w.heap.size Ds W)
    (hR : Kd.R k61 61 W w.heap.size (fun _ => True) v0 r.1) (hB : Below w.heap.size w W) : bodyPostM Fence.wide 5 Try.prog Try.f14 (DiffPost w r) .ret { tmps := tmps, defers := marksOf Ds } W := by
  refine leaves_marks (B := w.heap.size) (fun A => Kd.R k61 61 A w.heap.size (fun _ => True) v0 r.1 ∧ Below w.heap.size w A) (fun A C h hs => ⟨R_stepI h.1 hs (fun _ _ => by simp), hs.below h.2 (Nat.le_refl _) (Nat.le_refl _)⟩) (fun A h => ?_) Ds W hm ⟨hR, hB⟩; refine ⟨_, results_tmp2 rfl _ _ _, v0, ?_, Kd.N_mono (Kd.R_N (Kd.R_bound h.1)) (fun k hk => hk.2.1), h.2⟩; rw [h4, h5]
theorem wp_mid {P : Program} {c : Code} {Q : Exit → Act → World → Prop} {a : Act} {w : World} (R : Act → World → Prop) (h1 : c.wp P (fun e a' w' => match e with | .normal => R a' w' | _ => False) a w) (h2 : ∀ a' w', R a' w' → Q .normal a' w') : c.wp P Q a w :=
  wp_mono h1 fun e a' w' h => by
    cases e with
    | normal => exact h2 _ _ h
    | ret => exact h.elim
    | exit id => exact h.elim
    | goto t => exact h.elim
    | panic ch => exact h.elim
    | outgrown => exact h.elim
theorem anyBad_false {n0 : Nat} {l : List (List Int)} (h : anyBad n0 l = false) (i : Nat) (hi : i < l.length) : (rd_L1 l i).length = n0 ∧ 1 ≤ (rd_L1 l i).length ∧ (rd_L1 l i).length ≤ 10 := by
  unfold anyBad at h; rw [List.any_eq_false] at h; have h1 := h l[i] (List.getElem_mem hi)
  have h2 : rd_L1 l (i : Int) = l[i] := by simp [rd_L1, List.getD_eq_getElem?_getD, hi]
  rw [h2]; have h3 : ¬ badLen l[i].length n0 = true := h1; unfold badLen at h3; simp only [Bool.or_eq_true, bne_iff_ne, decide_eq_true_eq, not_or, Decidable.not_not] at h3; omega
theorem sumLen_ge (l : List (List (List Int))) (k : Nat) (hk : k < l.length) : (rd_L2 l k).length ≤ sumLen l := by
  have h2 : rd_L2 l (k : Int) = l[k] := by simp [rd_L2, List.getD_eq_getElem?_getD, hk]
  rw [h2]; have h3 := sumLen_snoc l k hk; have h4 := sumLen_take l (k + 1); omega
theorem shaped_row {l : List (List (List Int))} (h : shapedB l = true) (k : Nat) (hk : k < l.length) : (rd_L2 l k).length ≤ 512 ∧ ∀ i : Nat, i < (rd_L2 l k).length → (rd_L1 (rd_L2 l k) i).length = (rd_L1 (rd_L2 l k) 0).length ∧ 1 ≤ (rd_L1 (rd_L2 l k) i).length ∧ (rd_L1 (rd_L2 l k) i).length ≤ 10 := by
  unfold shapedB at h; simp only [Bool.and_eq_true, decide_eq_true_eq] at h; obtain ⟨⟨h1, h2⟩, h3⟩ := h; refine ⟨Nat.le_trans (sumLen_ge l k hk) h3, fun i hi => ?_⟩; rw [List.all_eq_true] at h1; have h4 := h1 _ (List.getElem_mem hk)
  have h5 : rd_L2 l (k : Int) = l[k] := by simp [rd_L2, List.getD_eq_getElem?_getD, hk]
  rw [h5] at hi ⊢; exact anyBad_false (by simpa using h4) i hi
theorem shaped_six {l : List (List (List Int))} (h : shapedB l = true) : l.length ≤ 6 := by
  unfold shapedB at h; simp only [Bool.and_eq_true, decide_eq_true_eq] at h; exact h.1.2
theorem setAll_le (kind : Int) (a b : List (List Int)) (m : Nat) (h : ∀ i : Nat, i < m → (rd_L1 a i).length ≤ 100000) : (setAll kind a b m).length ≤ 100000 * m := by
  induction m with
  | zero => simp [setAll]
  | succ m ih =>
    rw [setAll_snoc, List.length_append]; have h1 := setRow_le kind m (rd_L1 a m) (rd_L1 b m) (rd_L1 a m).length; have h2 := h m (by omega); have h3 := ih (fun i hi => h i (by omega)); omega
theorem diffL_le {l0 l1 : List (List (List Int))} (h0 : shapedB l0 = true) (h1 : shapedB l1 = true) : ∀ k : Nat, k ≤ l0.length → k ≤ l1.length → (diffL l0 l1 k).length ≤ 100000000000 * k
  | 0, _, _ => by simp [diffL]
  | k + 1, hk, hk' => by
    rw [diffL_snoc, List.length_append]; have h2 := diffL_le h0 h1 k (by omega) (by omega); obtain ⟨h3, h4⟩ := shaped_row h0 k (by omega); obtain ⟨h5, h6⟩ := shaped_row h1 k (by omega); have h7 : sameM (rd_L2 l0 k) (rd_L2 l1 k) ≤ (rd_L2 l0 k).length := Nat.le_trans (bestOf_le _ _ _) (Nat.min_le_left _ _); have h8 := setAll_le k (rd_L2 l0 k) (rd_L2 l1 k) (sameM (rd_L2 l0 k) (rd_L2 l1 k)) (fun i hi => by have := (h4 i (by omega)).2.2; omega)
    have h9 : (chgs k (rd_L2 l0 k) (rd_L2 l1 k) (sameM (rd_L2 l0 k) (rd_L2 l1 k))).length ≤ 100000000000 := by
      unfold chgs; rw [List.length_append, List.length_append]
      have e1 : (takeL k (rd_L2 l0 k) ((rd_L2 l0 k).length - sameM (rd_L2 l0 k) (rd_L2 l1 k))).length = (rd_L2 l0 k).length - sameM (rd_L2 l0 k) (rd_L2 l1 k) := by simp [takeL]
      have e2 : (addL k (rd_L2 l1 k) (sameM (rd_L2 l0 k) (rd_L2 l1 k)) ((rd_L2 l1 k).length - sameM (rd_L2 l0 k) (rd_L2 l1 k))).length = (rd_L2 l1 k).length - sameM (rd_L2 l0 k) (rd_L2 l1 k) := by simp [addL]
      omega
    omega
structure DiffG (w : World) (bo : Nat) (l0 l1 : List (List (List Int))) (k : Nat) (Ds : List Nat) (v : Value) (W : World) : Prop where
  le : k ≤ l0.length
  marks : Marked w.heap.size Ds W
  box : W.heap[bo]? = some (.cells #[v] 30 (0, 0))
  row : Kd.R k61 61 W w.heap.size (fun _ => True) v (diffL l0 l1 k)
  bel : Below w.heap.size w W
  good : ∀ j, j < k → okK l0 l1 j = true
def DiffJ (w : World) (bo : Nat) (l0 l1 : List (List (List Int))) (k : Nat) (Ds : List Nat) (s : List Yd) (W : World) : Prop :=
  ∃ v', Marked w.heap.size Ds W ∧ W.heap[bo]? = some (.cells #[v'] 30 (0, 0)) ∧ Kd.R k61 61 W w.heap.size (fun _ => True) v' (diffL l0 l1 k ++ s.map (·.1)) ∧ Below w.heap.size w W
def DiffI (w : World) (bo : Nat) (A0 : Option Addr) (c0 : Nat) (l0 : List (List (List Int))) (A1 : Option Addr) (c1 : Nat) (l1 : List (List (List Int))) (a : Act) (W : World) : Prop :=
  ∃ (k : Nat) (Ds : List Nat) (v : Value) (u7 u8 u27 u28 u29 u30 u31 u32 u33 u34 u35 u36 u37 u38 u39 u40 u41 u42 u43 u44 u45 u46 u47 u48 u49 u50 u51 u52 u53 u54 u55 u56 u57 u58 u59 u60 u61 u62 u63 u64 u65 u66 u67 u68 u69 u70 u71 u72 u73 u74 u75 u76 u77 u78 u79 u80 u81 u82 u83 u84 : Value), a = { tmps := #[.slice A0 l0.length c0, .slice A1 l1.length c1, undef, undef, .slice none 0 0, .int .i64 0, .pointer (some ⟨bo, 0, none⟩), u7, u8, .slice A0 l0.length c0, .bool true, .bool false, .bool false, .slice A1 l1.length c1, .bool true, .bool false, .bool false, .bool false, .slice A0 l0.length c0, .int .i64 l0.length, .slice A1 l1.length c1, .int .i64 l1.length, .bool false, .bool false, .slice A0 l0.length c0, .int .i64 l0.length, .int .i64 k, u27, u28, u29, u30, u31, u32, u33, u34, u35, u36, u37, u38, u39, u40, u41, u42, u43, u44, u45, u46, u47, u48, u49, u50, u51, u52, u53, u54, u55, u56, u57, u58, u59, u60, u61, u62, u63, u64, u65, u66, u67, u68, u69, u70, u71, u72, u73, u74, u75, u76, u77, u78, u79, u80, u81, u82, u83, u84, undef], defers := marksOf Ds } ∧ DiffG w bo l0 l1 k Ds v W
set_option maxHeartbeats 1000000 in
set_option maxRecDepth 100000 in
theorem diff_in (A0 : Option Addr) (c0 : Nat) (l0 : List (List (List Int))) (A1 : Option Addr) (c1 : Nat) (l1 : List (List (List Int))) (w : World) (hr0 : Kd.C (Kd.slice 22 (Kd.slice 3 (Kd.int .i64))) w A0 l0.length l0) (hc0 : l0.length ≤ c0)
    (hr1 : Kd.C (Kd.slice 22 (Kd.slice 3 (Kd.int .i64))) w A1 l1.length l1) (hc1 : l1.length ≤ c1) (hs0 : sumLen l0 < 4611686018427387904) (hs1 : sumLen l1 < 4611686018427387904) :
    Calls Try.prog 14 #[.slice A0 l0.length c0, .slice A1 l1.length c1] w (DiffPost w (diffR l0 l1)) := by
  refine (callsIn_wide (n := 5)).1 (callsIn_of_wp_marks Try.func14 rfl trivial ?_ rfl); refine wpIn_wide.2 ?_; simp only [Try.ntmps14, List.size_toArray, List.length_cons, List.length_nil, Nat.reduceAdd, Nat.reduceSub, Array.replicate_succ, Array.replicate_zero, List.push_toArray, List.append_toArray, List.nil_append, List.cons_append]; have hlen0 := hr0.2.1; have hlen1 := hr1.2.1; have H0 := Aside0.mk (diff_shaped.calls A0 c0 l0 (shapedB l0) w hr0 hc0 (if_pos hs0)); have H1 := Aside0.mk (fun (W : World) (hb : Below w.heap.size w W) => diff_shaped.calls A1 c1 l1 (shapedB l1) W (Kd.C_below hr1 hb) hc1 (if_pos hs1)); have HR0 := Aside0.mk hr0; have HR1 := Aside0.mk hr1; have HC0 := Aside0.mk hc0; have HC1 := Aside0.mk hc1; clear hr0 hr1 hc0 hc1 hs0 hs1; generalize hb0 : shapedB l0 = b0 at H0; generalize hb1 : shapedB l1 = b1 at H1; have HB0 := Lib.hid hb0; have HB1 := Lib.hid hb1; clear hb0 hb1
  cases b0 with
  | false =>
    go_wp2_with (go_at_call 37; refine H0.out.mono ?_; rintro e w1 ⟨rfl, hb⟩; have HB := Aside0.mk hb; clear hb)
    exact diff_leave w _ _ [] w1 _ rfl (by unfold diffR; rw [HB0.out]; rfl) (Marked.nil _ _) (by unfold diffR; rw [HB0.out]; exact Kd.R_nil _ _ _ _ _) HB.out
  | true =>
    cases b1 with
    | false =>
      go_wp2_with fail
      refine H0.out.mono ?_; rintro e w1 ⟨rfl, hb⟩; have HB := Aside0.mk hb; clear hb
      go_wp2_with fail
      refine (H1.out _ HB.out).mono ?_; rintro e w2 ⟨rfl, hb⟩; have HB2 := Aside0.mk (HB.out.trans (hb.mono HB.out.size)); clear hb; go_wp2; exact diff_leave w _ _ [] w2 _ rfl (by unfold diffR; rw [HB0.out, HB1.out]; rfl) (Marked.nil _ _) (by unfold diffR; rw [HB0.out, HB1.out]; exact Kd.R_nil _ _ _ _ _) HB2.out
    | true =>
      by_cases hll : l0.length = l1.length
      · have hne : ((l0.length : Int) != (l1.length : Int)) = false := by rw [hll]; simp
        have HLL := Lib.hid hll; clear hll
        go_wp2_with fail
        refine H0.out.mono ?_; rintro e w1 ⟨rfl, hb⟩; have HB := Aside0.mk hb; clear hb
        go_wp2_with fail
        refine (H1.out _ HB.out).mono ?_; rintro e w2 ⟨rfl, hb⟩; have HB2 := Aside0.mk (HB.out.trans (hb.mono HB.out.size)); clear hb; go_wp2; have hbo := HB2.out.size; refine wp_loop (DiffI w w2.heap.size A0 c0 l0 A1 c1 l1) (fun a _ => l0.length - (intOf (a.tmps.getD 26 undef)).toNat) ?_ (fun a' W hI => ?_); (· exact ⟨0, [], .slice none 0 0, _, _, _, _, _, _, _, _, _, _, _, _, _, _, _, _, _, _, _, _, _, _, _, _, _, _, _, _, _, _, _, _, _, _, _, _, _, _, _, _, _, _, _, _, _, _, _, _, _, _, _, _, _, _, _, _, _, _, _, _, rfl, ⟨Nat.zero_le _, Marked.nil _ _, heap_alloc_new w2 _, Kd.R_nil _ _ _ _ _, below_alloc HB2.out _, fun j hj => by omega⟩⟩)
        · obtain ⟨k, Ds, v, u7, u8, u27, u28, u29, u30, u31, u32, u33, u34, u35, u36, u37, u38, u39, u40, u41, u42, u43, u44, u45, u46, u47, u48, u49, u50, u51, u52, u53, u54, u55, u56, u57, u58, u59, u60, u61, u62, u63, u64, u65, u66, u67, u68, u69, u70, u71, u72, u73, u74, u75, u76, u77, u78, u79, u80, u81, u82, u83, u84, rfl, hG⟩ := hI
          have HG := Aside0.mk hG; have hk := hG.le; clear hG
          by_cases hlt : k < l0.length
          · have hk1 : k < l1.length := by have := HLL.out; omega
            obtain ⟨ad, Aa, ca, e0, hx0, hl0, hi0⟩ := at_L2 HR0.out k (by omega) (by omega); obtain ⟨bd, Ab, cb, f0, hy0, hm0, hj0⟩ := at_L2 HR1.out k (by omega) (by omega)
            cases e0
            cases f0
            rw [Int.toNat_natCast] at hx0 hy0; have hx1 : W.cell? (ad.add k) = some (.slice Aa (rd_L2 l0 k).length ca) := (HG.out.bel.cell (World.block_lt_of_cell? w _ hx0)).trans hx0; have hy1 : W.cell? (bd.add k) = some (.slice Ab (rd_L2 l1 k).length cb) := (HG.out.bel.cell (World.block_lt_of_cell? w _ hy0)).trans hy0; have HS0 := Aside0.mk (shaped_row HB0.out k hlt); have HS1 := Aside0.mk (shaped_row HB1.out k hk1); have hla := HS0.out.1; have hlb := HS1.out.1; have HI0 := Aside0.mk hi0; have HJ0 := Aside0.mk hj0; have HX0 := Aside0.mk hx0; have HY0 := Aside0.mk hy0; clear hx0 hy0 hl0 hm0 hi0 hj0; have HOK : Hid (okK l0 l1 k = !(decide (0 < (rd_L2 l0 k).length) && decide (0 < (rd_L2 l1 k).length) && (rd_L1 (rd_L2 l0 k) 0).length != (rd_L1 (rd_L2 l1 k) 0).length)) := rfl
            go_upto_region 7 with (fail)
            refine wp_mid (fun a' W' => ∃ (nq : Nat) (q29 q30 q31 q32 q33 q34 q35 q36 q37 q38 q39 q40 q41 q42 q43 q44 q45 q46 q47 q48 q49 q50 q51 q52 q53 q54 q55 q56 q57 q58 : Value), a' = { tmps := #[.slice (some ad) l0.length c0, .slice (some bd) l1.length c1, undef, undef, .slice none 0 0, .int .i64 0, .pointer (some ⟨w2.heap.size, 0, none⟩), .int .i64 k, u8, .slice (some ad) l0.length c0, .bool true, .bool false, .bool false, .slice (some bd) l1.length c1, .bool true, .bool false, .bool false, .bool false, .slice (some ad) l0.length c0, .int .i64 l0.length, .slice (some bd) l1.length c1, .int .i64 l1.length, .bool false, .bool false, .slice (some ad) l0.length c0, .int .i64 l0.length, .int .i64 k, .bool true, .int .i64 k, q29, q30, q31, q32, q33, q34, q35, q36, q37, q38, q39, q40, q41, q42, q43, q44, q45, q46, q47, q48, q49, q50, q51, q52, q53, q54, q55, q56, q57, q58, .bool (!okK l0 l1 k), u60, u61, u62, u63, u64, u65, u66, u67, u68, u69, u70, u71, u72, u73, u74, u75, u76, u77, u78, u79, u80, u81, u82, u83, u84, undef], defers := marksOf Ds } ∧ W' = W.drewN nq) ?_ ?_
            · by_cases ha : 0 < (rd_L2 l0 k).length
              · have ha1 : (0 : Int) < ((rd_L2 l0 k).length : Int) := by omega
                obtain ⟨aa, Ar, cr, ea, hxa, hla', hia⟩ := at_L1 HI0.out 0 (by omega) (by omega)
                by_cases hb : 0 < (rd_L2 l1 k).length
                · have hb1 : (0 : Int) < ((rd_L2 l1 k).length : Int) := by omega
                  obtain ⟨ab, Br, dr, eb, hxb, hlb', hib⟩ := at_L1 HJ0.out 0 (by omega) (by omega)
                  cases ea
                  cases eb
                  have hxa1 : W.cell? aa = some (.slice Ar (rd_L1 (rd_L2 l0 k) 0).length cr) := by
                    have : w.cell? aa = some (.slice Ar (rd_L1 (rd_L2 l0 k) 0).length cr) := by simpa [Addr.add] using hxa
                    exact (HG.out.bel.cell (World.block_lt_of_cell? w _ this)).trans this
                  have hxb1 : W.cell? ab = some (.slice Br (rd_L1 (rd_L2 l1 k) 0).length dr) := by
                    have : w.cell? ab = some (.slice Br (rd_L1 (rd_L2 l1 k) 0).length dr) := by simpa [Addr.add] using hxb
                    exact (HG.out.bel.cell (World.block_lt_of_cell? w _ this)).trans this
                  clear hxa hxb hla' hlb' hia hib
                  by_cases hw : (rd_L1 (rd_L2 l0 k) 0).length = (rd_L1 (rd_L2 l1 k) 0).length
                  · have hw1 : (((rd_L1 (rd_L2 l0 k) 0).length : Int) != ((rd_L1 (rd_L2 l1 k) 0).length : Int)) = false := by rw [hw]; simp
                    have HV : Hid ((!okK l0 l1 k) = false) := by unfold Hid; rw [HOK.out]; simp [hw]
                    clear hw
                    go_quiet (fail)
                    exact ⟨nq, _, _, _, _, _, _, _, _, _, _, _, _, _, _, _, _, _, _, _, _, _, _, _, _, _, _, _, _, _, _, by rw [HV.out], rfl⟩
                  · have hw1 : (((rd_L1 (rd_L2 l0 k) 0).length : Int) != ((rd_L1 (rd_L2 l1 k) 0).length : Int)) = true := by rw [bne_iff_ne]; omega
                    have HV : Hid ((!okK l0 l1 k) = true) := by unfold Hid; rw [HOK.out]; simp [ha, hb, hw]
                    clear hw
                    go_quiet (fail)
                    exact ⟨nq, _, _, _, _, _, _, _, _, _, _, _, _, _, _, _, _, _, _, _, _, _, _, _, _, _, _, _, _, _, _, by rw [HV.out], rfl⟩
                · have hb1 : decide ((0 : Int) < ((rd_L2 l1 k).length : Int)) = false := decide_eq_false (by omega)
                  have HV : Hid ((!okK l0 l1 k) = false) := by unfold Hid; rw [HOK.out]; simp [hb]
                  clear hxa hla' hia
                  go_quiet (fail)
                  exact ⟨nq, _, _, _, _, _, _, _, _, _, _, _, _, _, _, _, _, _, _, _, _, _, _, _, _, _, _, _, _, _, _, by rw [HV.out], rfl⟩
              · have ha1 : decide ((0 : Int) < ((rd_L2 l0 k).length : Int)) = false := decide_eq_false (by omega)
                have HV : Hid ((!okK l0 l1 k) = false) := by unfold Hid; rw [HOK.out]; simp [ha]
                go_quiet (fail)
                exact ⟨nq, _, _, _, _, _, _, _, _, _, _, _, _, _, _, _, _, _, _, _, _, _, _, _, _, _, _, _, _, _, _, by rw [HV.out], rfl⟩
            · rintro a' W' ⟨nq, q29, q30, q31, q32, q33, q34, q35, q36, q37, q38, q39, q40, q41, q42, q43, q44, q45, q46, q47, q48, q49, q50, q51, q52, q53, q54, q55, q56, q57, q58, rfl, rfl⟩
              by_cases hok : okK l0 l1 k = true
              · have hok1 : (!okK l0 l1 k) = false := by rw [hok]; rfl
                have HOK1 := Lib.hid hok; rw [hok1]; clear hok hok1
                have HROW := Aside0.mk (show ∀ i : Nat, i < (rd_L2 l0 k).length → i < (rd_L2 l1 k).length → (rd_L1 (rd_L2 l0 k) i).length ≤ 100000 ∧ (rd_L1 (rd_L2 l0 k) i).length ≤ (rd_L1 (rd_L2 l1 k) i).length from by
                  intro i h1 h2; have h3 := HOK1.out; rw [HOK.out] at h3
                  have ha : 0 < (rd_L2 l0 k).length := by omega
                  have hb : 0 < (rd_L2 l1 k).length := by omega
                  simp [ha, hb] at h3
                  have h4 := HS0.out.2 i h1; have h5 := HS1.out.2 i h2
                  omega)
                have HSA := Aside0.mk (fun (W' : World) (hb : Below w.heap.size w W') => (same_any Aa Ab ca cb (rd_L2 l0 k) (rd_L2 l1 k) W' (Kd.C_below HI0.out hb) (Kd.C_below HJ0.out hb) (by omega) (by omega) HROW.out).mono (R' := fun e w' => e = .returned (.int .i64 (sameM (rd_L2 l0 k) (rd_L2 l1 k))) ∧ w' = W') (fun e w' h => ⟨h.1, h.2.symm⟩)); have hsm1 : sameM (rd_L2 l0 k) (rd_L2 l1 k) ≤ (rd_L2 l0 k).length := Nat.le_trans (bestOf_le _ _ _) (Nat.min_le_left _ _); have hsm2 : sameM (rd_L2 l0 k) (rd_L2 l1 k) ≤ (rd_L2 l1 k).length := Nat.le_trans (bestOf_le _ _ _) (Nat.min_le_right _ _); have HBn := Aside0.mk (pw_below_drewN HG.out.bel nq); go_wp2; obtain ⟨W9, hW9⟩ : ∃ W9, W9 = W.drewN nq := ⟨_, rfl⟩
                have hx9 : W9.cell? (ad.add k) = some (.slice Aa (rd_L2 l0 k).length ca) := by rw [hW9]; exact hx1
                have hy9 : W9.cell? (bd.add k) = some (.slice Ab (rd_L2 l1 k).length cb) := by rw [hW9]; exact hy1
                have HG9 : Aside0 (DiffG w w2.heap.size l0 l1 k Ds v W9) := by
                  rw [hW9]; exact ⟨⟨HG.out.le, HG.out.marks.below (pw_below_drewN (Below.refl _ _) _), HG.out.box, Kd.R_drewN HG.out.row _, pw_below_drewN HG.out.bel _, HG.out.good⟩⟩
                rw [← hW9] at HBn ⊢; clear hW9 hx1 hy1 HG; refine wp_region_still_tail 18 (by kernel_rfl) (by kernel_rfl) ?_; simp only [List.take_succ_cons, List.take_zero, List.drop_succ_cons, List.drop_zero]
                repeat still_step
                still_call (HSA.out _ (below_drew HBn.out))
                repeat still_step
                try refine wpStill_nil ?_
                change wpList _ _ _ _ _ W9.drew
                go_wp2_with (go_at_call 38; refine (changes_any _ _ _ _ _ _ _ _ _).mono ?_; rintro e w3 ⟨rfl, rfl⟩)
                have hW9 : w.heap.size ≤ W9.heap.size := HBn.out.size; obtain ⟨W10, hW10⟩ : ∃ W10, W10 = ((((W9.alloc (.cells #[.int .i64 k] 3)).alloc (.cells #[.slice Aa (rd_L2 l0 k).length ca] 64)).alloc (.cells #[.slice Ab (rd_L2 l1 k).length cb] 64)).alloc (.cells #[.int .i64 (sameM (rd_L2 l0 k) (rd_L2 l1 k) : Nat)] 3)).drew := ⟨_, rfl⟩
                have hsz10 : W10.heap.size = W9.heap.size + 4 := by rw [hW10]; simp
                have hb10 : Below W9.heap.size W9 W10 := by rw [hW10]; exact below_drew (below_alloc (below_alloc (below_alloc (below_alloc (Below.refl _ _) _) _) _) _)
                have hk10 : W10.heap[W9.heap.size]? = some (.cells #[.int .i64 k] 3 (0, 0)) := by
                  rw [hW10]
                  show ((((W9.alloc (.cells #[.int .i64 k] 3)).alloc (.cells #[.slice Aa (rd_L2 l0 k).length ca] 64)).alloc (.cells #[.slice Ab (rd_L2 l1 k).length cb] 64)).alloc (.cells #[.int .i64 (sameM (rd_L2 l0 k) (rd_L2 l1 k) : Nat)] 3)).heap[W9.heap.size]? = _
                  rw [Below.heap_alloc _ _ _ (by simp; omega), Below.heap_alloc _ _ _ (by simp; omega), Below.heap_alloc _ _ _ (by simp)]; exact heap_alloc_new W9 _
                have ha10 : W10.heap[W9.heap.size + 1]? = some (.cells #[.slice Aa (rd_L2 l0 k).length ca] 64 (0, 0)) := by
                  rw [hW10]
                  show ((((W9.alloc (.cells #[.int .i64 k] 3)).alloc (.cells #[.slice Aa (rd_L2 l0 k).length ca] 64)).alloc (.cells #[.slice Ab (rd_L2 l1 k).length cb] 64)).alloc (.cells #[.int .i64 (sameM (rd_L2 l0 k) (rd_L2 l1 k) : Nat)] 3)).heap[W9.heap.size + 1]? = _
                  rw [Below.heap_alloc _ _ _ (by simp), Below.heap_alloc _ _ _ (by simp)]; have := heap_alloc_new (W9.alloc (.cells #[.int .i64 k] 3)) (.cells #[.slice Aa (rd_L2 l0 k).length ca] 64)
                  simpa using this
                have hb10' : W10.heap[W9.heap.size + 2]? = some (.cells #[.slice Ab (rd_L2 l1 k).length cb] 64 (0, 0)) := by
                  rw [hW10]
                  show ((((W9.alloc (.cells #[.int .i64 k] 3)).alloc (.cells #[.slice Aa (rd_L2 l0 k).length ca] 64)).alloc (.cells #[.slice Ab (rd_L2 l1 k).length cb] 64)).alloc (.cells #[.int .i64 (sameM (rd_L2 l0 k) (rd_L2 l1 k) : Nat)] 3)).heap[W9.heap.size + 2]? = _
                  rw [Below.heap_alloc _ _ _ (by simp)]; have := heap_alloc_new ((W9.alloc (.cells #[.int .i64 k] 3)).alloc (.cells #[.slice Aa (rd_L2 l0 k).length ca] 64)) (.cells #[.slice Ab (rd_L2 l1 k).length cb] 64)
                  simpa using this
                have hm10 : W10.heap[W9.heap.size + 3]? = some (.cells #[.int .i64 (sameM (rd_L2 l0 k) (rd_L2 l1 k) : Nat)] 3 (0, 0)) := by
                  rw [hW10]
                  show ((((W9.alloc (.cells #[.int .i64 k] 3)).alloc (.cells #[.slice Aa (rd_L2 l0 k).length ca] 64)).alloc (.cells #[.slice Ab (rd_L2 l1 k).length cb] 64)).alloc (.cells #[.int .i64 (sameM (rd_L2 l0 k) (rd_L2 l1 k) : Nat)] 3)).heap[W9.heap.size + 3]? = _
                  have := heap_alloc_new (((W9.alloc (.cells #[.int .i64 k] 3)).alloc (.cells #[.slice Aa (rd_L2 l0 k).length ca] 64)).alloc (.cells #[.slice Ab (rd_L2 l1 k).length cb] 64)) (.cells #[.int .i64 (sameM (rd_L2 l0 k) (rd_L2 l1 k) : Nat)] 3)
                  simpa using this
                rw [← hW10]; clear hW10 hx9 hy9; have hbB : Below w.heap.size w W10 := HBn.out.trans (hb10.mono hW9); have hdl := diffL_le HB0.out HB1.out k (by omega) (by omega); have hl06 := shaped_six HB0.out
                refine wpIn_wide.1 (wpIn_range_on (n := 5) (α := Yd) rfl (by omega) (gf := 64) (lb := #[.pointer (some ⟨W9.heap.size + 3, 0, none⟩), .pointer (some ⟨W9.heap.size + 1, 0, none⟩), .pointer (some ⟨W9.heap.size + 2, 0, none⟩), .pointer (some ⟨W9.heap.size, 0, none⟩)]) rfl trivial (enters_of Try.func64 (by kernel_rfl) rfl)
                  (enc := Yd.enc) (T := Yd.T w.heap.size) (S := fun xs _ => xs.map (·.1) = chgs k (rd_L2 l0 k) (rd_L2 l1 k) (sameM (rd_L2 l0 k) (rd_L2 l1 k))) (N := 100000000000) (B := w.heap.size) (ts := [30, 61]) (tI := [4]) (by omega)
                  (fun L => ?iter) (fun x => rfl)
                  (fun s W => DiffJ w w2.heap.size l0 l1 k Ds s W)
                  (fun x a1 W => ∃ b8, W.heap[b8]? = some (.cells x.cells 61 (0, 0)) ∧ a1 = { tmps := #[.slice (some ad) l0.length c0, .slice (some bd) l1.length c1, undef, undef, .slice none 0 0, .int .i64 0, .pointer (some ⟨w2.heap.size, 0, none⟩), .int .i64 k, .pointer (some ⟨b8, 0, none⟩), .slice (some ad) l0.length c0, .bool true, .bool false, .bool false, .slice (some bd) l1.length c1, .bool true, .bool false, .bool false, .bool false, .slice (some ad) l0.length c0, .int .i64 l0.length, .slice (some bd) l1.length c1, .int .i64 l1.length, .bool false, .bool false, .slice (some ad) l0.length c0, .int .i64 l0.length, .int .i64 k, .bool true, .int .i64 k, q29, q30, q31, q32, q33, q34, q35, q36, q37, q38, q39, q40, q41, q42, q43, q44, q45, q46, q47, q48, q49, q50, q51, q52, q53, q54, q55, q56, q57, q58, .bool false, .int .i64 k, .slice (some ad) l0.length c0, .int .i64 k, .pointer (some (ad.add k)), .slice Aa (rd_L2 l0 k).length ca, .slice (some bd) l1.length c1, .int .i64 k, .pointer (some (bd.add k)), .slice Ab (rd_L2 l1 k).length cb, .slice (some ad) l0.length c0, .int .i64 k, .pointer (some (ad.add k)), .slice Aa (rd_L2 l0 k).length ca, .slice (some bd) l1.length c1, .int .i64 k, .pointer (some (bd.add k)), .slice Ab (rd_L2 l1 k).length cb, .int .i64 (sameM (rd_L2 l0 k) (rd_L2 l1 k) : Nat), .func (.func 64) #[] #[.pointer (some ⟨W9.heap.size + 3, 0, none⟩), .pointer (some ⟨W9.heap.size + 1, 0, none⟩), .pointer (some ⟨W9.heap.size + 2, 0, none⟩), .pointer (some ⟨W9.heap.size, 0, none⟩)], .agg x.cells, u80, u81, u82, u83, u84, undef], defers := [] })
                  ?hI ?hT (fun _ _ _ h _ => h) ?hAx ?h0 ?assign ?body ?done)
                case iter =>
                  have hb12 : Below W10.heap.size W10 ((W10.alloc (.deferred (some []))).alloc (.loop L)) := below_alloc (below_alloc (Below.refl _ _) _) _
                  have q : ∀ i o, W10.heap[i]? = some o → ((W10.alloc (.deferred (some []))).alloc (.loop L)).heap[i]? = some o := fun i o hi => (hb12.block i (Array.getElem?_eq_some_iff.1 hi).1).trans hi
                  exact changes1_iterates _ w _ _ k _ Aa Ab ca cb (rd_L2 l0 k) (rd_L2 l1 k) _ _ _ _ (q _ _ hm10) (q _ _ ha10) (q _ _ hb10') (q _ _ hk10) (hbB.trans (hb12.mono (by omega))) HI0.out HJ0.out hsm1 hsm2
                    (fun i hi => (HROW.out i (by omega) (by omega)).2) (fun i hi => by have := (HS0.out.2 i hi).2.2; omega) (fun i hi => by have := (HS1.out.2 i hi).2.2; omega) (by omega) (by omega) (fun i hi => (HROW.out i (by omega) (by omega)).1)
                case hI =>
                  rintro s A C ⟨v', hm, hb, hr, hB⟩ hst; exact ⟨v', hm.stepI hst (fun D hD => by have := HG9.out.marks.lt D hD; omega), hst.other hb (by decide), R_stepI hr hst (by decide), hst.below hB (Nat.le_refl _) (by omega)⟩
                case hT =>
                  rintro x A C h hst; exact R_stepI (d := Kd.int .i64) h hst (by decide)
                case hAx =>
                  rintro x a1 A C ⟨b8, h8, e⟩ hst; exact ⟨b8, hst.other h8 (by decide), e⟩
                case h0 =>
                  exact ⟨v, HG9.out.marks.below hb10, (hb10.block _ (blk_lt HG9.out.box)).trans HG9.out.box, by simpa using Kd.R_below HG9.out.row hb10, hbB⟩
                case assign =>
                  rintro l pre ⟨s, vs⟩ W K ⟨v', hm, hbx, hr, hB⟩ ht hK; obtain ⟨As, cs, es⟩ : ∃ As cs, vs = .slice As s.f5.length cs := Kd.R_slice ht; subst es; have hal : Below W.heap.size W (W.alloc (.cells (Yd.cells (s, .slice As s.f5.length cs)) 61)) := below_alloc (Below.refl _ _) _; have HK := Aside0.mk (hK { tmps := #[.slice (some ad) l0.length c0, .slice (some bd) l1.length c1, undef, undef, .slice none 0 0, .int .i64 0, .pointer (some ⟨w2.heap.size, 0, none⟩), .int .i64 k, .pointer (some ⟨W.heap.size, 0, none⟩), .slice (some ad) l0.length c0, .bool true, .bool false, .bool false, .slice (some bd) l1.length c1, .bool true, .bool false, .bool false, .bool false, .slice (some ad) l0.length c0, .int .i64 l0.length, .slice (some bd) l1.length c1, .int .i64 l1.length, .bool false, .bool false, .slice (some ad) l0.length c0, .int .i64 l0.length, .int .i64 k, .bool true, .int .i64 k, q29, q30, q31, q32, q33, q34, q35, q36, q37, q38, q39, q40, q41, q42, q43, q44, q45, q46, q47, q48, q49, q50, q51, q52, q53, q54, q55, q56, q57, q58, .bool false, .int .i64 k, .slice (some ad) l0.length c0, .int .i64 k, .pointer (some (ad.add k)), .slice Aa (rd_L2 l0 k).length ca, .slice (some bd) l1.length c1, .int .i64 k, .pointer (some (bd.add k)), .slice Ab (rd_L2 l1 k).length cb, .slice (some ad) l0.length c0, .int .i64 k, .pointer (some (ad.add k)), .slice Aa (rd_L2 l0 k).length ca, .slice (some bd) l1.length c1, .int .i64 k, .pointer (some (bd.add k)), .slice Ab (rd_L2 l1 k).length cb, .int .i64 (sameM (rd_L2 l0 k) (rd_L2 l1 k) : Nat), .func (.func 64) #[] #[.pointer (some ⟨W9.heap.size + 3, 0, none⟩), .pointer (some ⟨W9.heap.size + 1, 0, none⟩), .pointer (some ⟨W9.heap.size + 2, 0, none⟩), .pointer (some ⟨W9.heap.size, 0, none⟩)], .agg (Yd.cells (s, .slice As s.f5.length cs)), u80, u81, u82, u83, u84, undef], defers := [] } (W.alloc (.cells (Yd.cells (s, .slice As s.f5.length cs)) 61)) (KeepBody.alloc _ _ _ _) ⟨v', hm.below hal, (hal.block _ (blk_lt hbx)).trans hbx, Kd.R_below hr hal, below_then hB hB.size hal⟩ (Kd.R_below ht hal) ⟨W.heap.size, heap_alloc_new W _, rfl⟩); clear hm hbx hr hB ht hK hal; simp only [Yd.enc, Yd.cells] at HK ⊢
                  gi_wp2
                  exact HK.out
                case body =>
                  rintro l pre ⟨s, vs⟩ a1 W ⟨v', hm, hbx, hr, hB⟩ hlen ht ⟨b8, h8, rfl⟩; obtain ⟨As, cs, es⟩ : ∃ As cs, vs = .slice As s.f5.length cs := Kd.R_slice ht; subst es; obtain ⟨Av, cv, ev⟩ := Kd.R_slice hr; obtain ⟨nv, hnv⟩ : ∃ nv, nv = (diffL l0 l1 k ++ pre.map (·.1)).length := ⟨_, rfl⟩; rw [← hnv] at ev; subst ev; clear hnv; have hcb := cell_of_row _ _ 0 _ 30 (0, 0) hbx; simp only [Yd.cells] at h8; have hc0 := cell_of_row _ _ 0 _ 61 (0, 0) h8; have hc1 := cell_of_row _ _ 1 _ 61 (0, 0) h8; have hc2 := cell_of_row _ _ 2 _ 61 (0, 0) h8; have hc3 := cell_of_row _ _ 3 _ 61 (0, 0) h8; have hc4 := cell_of_row _ _ 4 _ 61 (0, 0) h8; have hc5 := cell_of_row _ _ 5 _ 61 (0, 0) h8; have hu61 := Try.underlying61; have HMP := Aside0.mk (M_ne (k61_mkM W w.heap.size (fun _ => True) s ht) hr); have HR9 := Aside0.mk hr; have HM9 := Aside0.mk hm; have HB9 := Aside0.mk hB; have HBX := Aside0.mk hbx
                  have hlx : ((diffL l0 l1 k ++ pre.map (·.1)).length + 1) * 64 ≤ 140737488355328 := by
                    rw [List.length_append, List.length_map]; omega
                  have HLX := Aside0.mk hlx; clear hm hbx hr hB ht h8 hlx
                  have HEND := Aside0.mk (show ∀ v1 w1, Kd.R k61 61 w1 w.heap.size (fun _ => True) v1 ((diffL l0 l1 k ++ pre.map (·.1)) ++ [s]) → (W.alloc (.cells ([.int .i64 s.f0, .int .i64 s.f1, .int .i64 s.f2, .int .i64 s.f3, .int .i64 s.f4, .slice As s.f5.length cs] : List Value).toArray 61)).grownBy w1 (.slice Av nv cv : Value).ownBlock →
                      w1.heap[w2.heap.size]? = some (.cells #[.slice Av nv cv] 30 (0, 0)) ∧
                      KeepBody w.heap.size [30, 61] W (w1.setCell ⟨w2.heap.size, 0, none⟩ v1) ∧ DiffJ w w2.heap.size l0 l1 k Ds (pre ++ [((s, .slice As s.f5.length cs) : Yd)]) (w1.setCell ⟨w2.heap.size, 0, none⟩ v1) from by
                    intro v1 w1 hr1 hg1; have hal : Below W.heap.size W (W.alloc (.cells ([.int .i64 s.f0, .int .i64 s.f1, .int .i64 s.f2, .int .i64 s.f3, .int .i64 s.f4, .slice As s.f5.length cs] : List Value).toArray 61)) := below_alloc (Below.refl _ _) _; have hne := Kd.R_ne HR9.out HBX.out (by decide); have hlt1 := blk_lt HBX.out; have hbx1 : w1.heap[w2.heap.size]? = some (.cells #[.slice Av nv cv] 30 (0, 0)) := (hg1.block _ (by have := hal.size; omega) hne).trans ((hal.block _ hlt1).trans HBX.out)
                    have hrow : ∀ r, (.slice Av nv cv : Value).ownBlock = some r → w.heap.size ≤ r := fun r e => Kd.R_base HR9.out r e
                    have hkb : KeepBody w.heap.size [30, 61] W (w1.setCell ⟨w2.heap.size, 0, none⟩ v1) :=
                      ((KeepBody.alloc _ _ _ _).trans (KeepBody.grown hg1 (fun r e => ⟨hrow r e, fun o ho => by
                        obtain ⟨cells, hc⟩ := Kd.R_typed (Kd.R_below HR9.out hal) r e; rw [hc] at ho
                        injection ho with ho
                        exact ⟨cells, 61, (0, 0), ho.symm, by decide⟩⟩))).trans (KeepBody.setCell _ hbo (fun o ho => by
                        rw [show ((⟨w2.heap.size, 0, none⟩ : Addr).block) = w2.heap.size from rfl, hbx1] at ho
                        injection ho with ho
                        exact ⟨_, 30, (0, 0), ho.symm, by decide⟩))
                    refine ⟨hbx1, hkb, v1, HM9.out.later (fun i o hi ho => hkb.same i o hi (.inr (.inl ho))), ?_, ?_, ?_⟩
                    · have := blk_set hbx1 0 v1
                      simpa using this
                    · have := Kd.R_set hr1 hbx1 (by decide) 0 v1
                      simpa using this
                    · exact (((HB9.out.trans (hal.mono HB9.out.size)).grown hg1 (Nat.le_trans HB9.out.size hal.size) (fun r e => hrow r e)).setCell (p := ⟨w2.heap.size, 0, none⟩) hbo v1))
                  gi_wp2_with ((gi_at_builtin; refine R_append_in k61 (W := W) w.heap.size rfl (.tmp 80) (.tmp 82) 30 61 (.agg #[(.int .i64 0), (.int .i64 0), (.int .i64 0), (.int .i64 0), (.int .i64 0), (.slice none 0 0)]) 64 rfl Try.underlying30 info61 rfl (by decide) (by omega) (.slice Av nv cv) (diffL l0 l1 k ++ pre.map (·.1)) s [.int .i64 s.f0, .int .i64 s.f1, .int .i64 s.f2, .int .i64 s.f3, .int .i64 s.f4, .slice As s.f5.length cs] (fun _ => True) (fun k_ => True ∧ some k_ ≠ (.slice Av nv cv : Value).ownBlock) rfl rfl HMP.out (fun _ hk => hk) (fun _ _ => trivial) HR9.out HB9.out.size HLX.out ?_; intro v1 w1 hr1 hg1 hv1; obtain ⟨A1, c1', e1⟩ := hv1; obtain ⟨n1, hn1⟩ : ∃ n1, n1 = (diffL l0 l1 k ++ pre.map (·.1)).length + 1 := ⟨_, rfl⟩; rw [← hn1] at e1; subst e1; clear hn1; have HE := HEND.out _ w1 hr1 hg1; obtain ⟨hbx1, hE2⟩ := HE; have HE2 := Aside0.mk hE2; have hcb1 := cell_of_row _ _ 0 _ 30 (0, 0) hbx1; have hfb1 : w1.frozen? ⟨w2.heap.size, 0, none⟩ = false := (by simp [World.frozen?, hbx1]); clear hbx1 hE2 hr1 hg1))
                  exact HE2.out
                case done =>
                  rintro D xs W hD hxs ⟨v', hm, hbx, hr, hB⟩ hDD; rw [hxs, ← diffL_snoc] at hr
                  have HFIN := Aside0.mk (show DiffG w w2.heap.size l0 l1 (k + 1) (D :: Ds) v' W from ⟨by omega, hm.cons (by omega) hDD (fun hmem => by have := HG9.out.marks.lt D hmem; omega), hbx, hr, hB, fun j hj => by
                    rcases Nat.lt_or_ge j k with h | h
                    (· exact HG9.out.good j h)
                    · rw [show j = k from by omega]; exact HOK1.out⟩)
                  clear hm hbx hr hB hDD hxs; go_wp2; refine ⟨⟨k + 1, D :: Ds, v', _, _, _, _, _, _, _, _, _, _, _, _, _, _, _, _, _, _, _, _, _, _, _, _, _, _, _, _, _, _, _, _, _, _, _, _, _, _, _, _, _, _, _, _, _, _, _, _, _, _, _, _, _, _, _, _, _, _, _, _, rfl, HFIN.out⟩, ?_⟩
                  simp [intOf]
                  omega
              · have hok1 : (!okK l0 l1 k) = true := by simpa using hok
                have HF : Hid (diffR l0 l1 = ([], 2)) := by
                  have : okK l0 l1 k = false := by simpa using hok
                  unfold Hid diffR; rw [if_neg]; simp only [Bool.and_eq_true, not_and, Bool.not_eq_true, List.all_eq_false]; intro _; exact ⟨k, List.mem_range.2 hlt, by rw [this]⟩
                rw [hok1]; clear hok hok1; go_wp2; rw [HF.out]; exact diff_leave w _ _ Ds _ (.slice none 0 0) rfl rfl (HG.out.marks.below (pw_below_drewN (Below.refl _ _) _)) (Kd.R_nil _ _ _ _ _) (pw_below_drewN HG.out.bel _)
          · have hbx := cell_of_row _ _ 0 _ 30 (0, 0) HG.out.box
            have hneg : ¬ ((k : Int) < (l0.length : Int)) := by omega
            have HF : Hid (diffR l0 l1 = (diffL l0 l1 k, 0)) := by
              unfold Hid diffR; rw [HB0.out, HB1.out, show l0.length = k from by omega]
              have : (List.range k).all (okK l0 l1) = true := by
                rw [List.all_eq_true]; intro j hj; exact HG.out.good j (List.mem_range.1 hj)
              rw [this]
              have : decide (k = l1.length) = true := by have := HLL.out; simp; omega
              rw [this]; rfl
            go_wp2; rw [HF.out]; exact diff_leave w _ _ Ds W v rfl rfl HG.out.marks HG.out.row HG.out.bel
      · have hne : ((l0.length : Int) != (l1.length : Int)) = true := by rw [bne_iff_ne]; omega
        have HF : Hid (diffR l0 l1 = ([], 2)) := by unfold Hid diffR; rw [if_neg (by simp [hll])]
        go_wp2_with fail
        refine H0.out.mono ?_; rintro e w1 ⟨rfl, hb⟩; have HB := Aside0.mk hb; clear hb
        go_wp2_with fail
        refine (H1.out _ HB.out).mono ?_; rintro e w2 ⟨rfl, hb⟩; have HB2 := Aside0.mk (HB.out.trans (hb.mono HB.out.size)); clear hb; go_wp2; rw [HF.out]; exact diff_leave w _ _ [] w2 _ rfl rfl (Marked.nil _ _) (Kd.R_nil _ _ _ _ _) HB2.out
theorem diff_Diff.calls (A0 : Option Addr) (c0 : Nat) (l0 : List (List (List Int))) (A1 : Option Addr) (c1 : Nat) (l1 : List (List (List Int))) (r1 : List S61) (r2 : Int) (w : World) (hr0 : Kd.C (Kd.slice 22 (Kd.slice 3 (Kd.int .i64))) w A0 l0.length l0) (hc0 : l0.length ≤ c0)
    (hr1 : Kd.C (Kd.slice 22 (Kd.slice 3 (Kd.int .i64))) w A1 l1.length l1) (hc1 : l1.length ≤ c1) (h : diff_Diff.f l0 l1 = some (r1, r2)) :
    Calls Try.prog 14 #[.slice A0 l0.length c0, .slice A1 l1.length c1] w fun e w' => ∃ v0_ : Value, e = .returned (.tuple #[v0_, .int .i64 r2]) ∧ Kd.N k61 61 w' w.heap.size (fun k_ => w.heap.size ≤ k_) v0_ r1 ∧ Below w.heap.size w w' := by
  unfold diff_Diff.f at h
  split at h
  (· rename_i hs; have e := Option.some.inj h; have := diff_in A0 c0 l0 A1 c1 l1 w hr0 hc0 hr1 hc1 hs.1 hs.2; rw [e] at this; exact this)
  · cases h
end Go.Proofs.Ytcgpemefmakjiaa.PX
namespace Go.Proofs.Ytcgpemefmakjiaa.PX
open Go.RowKit Go.Proofs.YtcgpemefmakjiaaW.PrintWords Go.Proofs.YtcgpemefmakjiaaW.PrintLast Go.Proofs.YtcgpemefmakjiaaW.PrintMore
attribute [local go_sem] max2_int min2_int max_two min_two max_three min_three max_four min_four   -- for this text's walks alone
set_option linter.unusedVariables false
set_option linter.unusedSimpArgs false
def dioramalaw36_plain.l0 : Nat → List (S61) → List (S76) → Int → Option ((List (S76)))
  | 0, _, _, _ => none
  | k + 1, x0, x3, x4 => if x4 < (x0.length : Int) then (if 0 ≤ x4 then (if x3.length < 2199023255552 then (dioramalaw36_plain.l0 k x0 (x3 ++ [(⟨(rd_T61 x0 x4).f0, (rd_T61 x0 x4).f1, (rd_T61 x0 x4).f2, (rd_T61 x0 x4).f3, (rd_T61 x0 x4).f4, (rd_T61 x0 x4).f5⟩ : S76)]) (wrap64 (x4 + 1))) else (none)) else (none)) else (some x3)
def dioramalaw36_plain.f (k : Nat) (l0 : List (S61)) : Option ((List (S76))) := dioramalaw36_plain.l0 k l0 ([] : List (S76)) 0
def dioramalaw36_plain.T5 : Bool × List (List Nat × List Nat) := (true, [([], []), ([], []), ([], []), ([1, 2], [1, 2]), ([3], [3]), ([4], [4]), ([], []), ([], []), ([6, 7], [6, 7]), ([8], [8]), ([9], [9]), ([], []), ([], []), ([11, 12], [11, 12]), ([13], [13]), ([14], [14]), ([], []), ([], []), ([16, 17], [16, 17]), ([18], [18]), ([19], [19]), ([], []), ([], []), ([21, 22], [21, 22]), ([23], [23]), ([24], [24]), ([], []), ([], []), ([26, 27], [26, 27]), ([28], [28]), ([29], [29]), ([5, 10, 15, 20, 25, 30], [5, 10, 15, 20, 25, 30]), ([31], [31]), ([0, 32], [0, 32]), ([33, 33, 0, 1, 2, 3, 4, 5, 6, 7, 8, 9, 10, 11, 12, 13, 14, 15, 16, 17, 18, 19, 20, 21, 22, 23, 24, 25, 26, 27, 28, 29, 30, 31, 32, 33], [0, 33])])
def dioramalaw36_plain.B5 : List Nat := [0, 0, 0, 6, 14, 30, 0, 0, 192, 448, 960, 0, 0, 6144, 14336, 30720, 0, 0, 196608, 458752, 983040, 0, 0, 6291456, 14680064, 31457280, 0, 0, 201326592, 469762048, 1006632960, 2147483646, 4294967294, 8589934591, 17179869183]
theorem dioramalaw36_plain.tab5 : rtab .any (opsOf Try.f17 5) = dioramalaw36_plain.T5 := by kernel_rfl
theorem dioramalaw36_plain.bits5 : waitsOk dioramalaw36_plain.T5.2 dioramalaw36_plain.B5 = true := by kernel_rfl
set_option maxHeartbeats 8000000 in
set_option maxRecDepth 100000 in
theorem dioramalaw36_plain.calls (k : Nat) (P0_ : Nat → Prop) (A0 : Option Addr) (c0 : Nat) (l0 : List (S61)) (r : List (S76)) (w : World) (hs0 : Kd.V k61 61 w w.heap.size (fun k_ => P0_ k_) (.slice A0 l0.length c0) l0) (h : dioramalaw36_plain.f k l0 = some r) :
    Calls Try.prog 17 #[.slice A0 l0.length c0] w fun e w' => ∃ v0_ : Value, e = .returned (v0_) ∧ Kd.N k76 76 w' w.heap.size (fun k_ => (P0_ k_ ∨ w.heap.size ≤ k_)) v0_ r ∧ Below w.heap.size w w' := by
  have hu76 := Try.underlying76; have HO0 := Aside0.mk (show Kd.V k61 61 w w.heap.size (fun k_ => (P0_ k_ ∨ w.heap.size ≤ k_)) (.slice A0 l0.length c0) l0 from Kd.V_mono hs0 (fun k_ hk => .inl hk)); have HB := Aside0.mk (Below.refl w.heap.size w); have H : (dioramalaw36_plain.l0 k l0 ([] : List (S76)) 0) = some r := h; clear h; have H' := Aside0.mk H; clear H
  go_enter Try.func17, Try.ntmps17
  go_wp2
  go_loopg [3, 4] k (fun kq v3 v4 w' => ∃ (x3_1 : List (S76)) (x4_1 : Int), v4 = .int .i64 x4_1 ∧ Aside0 (dioramalaw36_plain.l0 kq l0 x3_1 x4_1 = some r) ∧ Aside0 (kq ≤ k) ∧ Aside0 (Kd.V k61 61 w' w.heap.size (fun k_ => (P0_ k_ ∨ w.heap.size ≤ k_) ∧ some k_ ≠ (v3 : Value).ownBlock) (.slice A0 l0.length c0) l0) ∧ Aside0 (Kd.N k76 76 w' w.heap.size (fun k_ => (P0_ k_ ∨ w.heap.size ≤ k_)) v3 x3_1) ∧ Aside0 (Below w.heap.size w w'))
  case atStart => exact ⟨(([] : List (S76))), (0), (by first | rfl | (simp; done) | (simp [*]; done)), H', ⟨Nat.le_refl _⟩, ⟨by (with_reducible repeat (first | apply Kd.V_alloc | apply Kd.V_drewN | apply Kd.V_drew)); exact Kd.V_mono HO0.out (fun _ hk => ⟨hk, (by simp [Value.ownBlock])⟩)⟩, ⟨by first | exact Kd.S_nil _ _ _ _ _ | exact Kd.N_nil _ _ _ _ _ | exact Kd.V_nil _ _ _ _ _ | exact Kd.Q_nil _ _ _ _ _ | exact Kd.R_nil _ _ _ _ _⟩, ⟨by repeat (first | (with_reducible first | exact HB.out | apply below_alloc | apply pw_below_drewN | apply below_drew1) | exact HB.out)⟩⟩
  case round =>
    clear H'
    try clear c1
    obtain ⟨x3_1, x4_1, rfl, HA, HK1, HO_0, HO_3, HB⟩ := hrel
    cases gk with
    | zero => exact absurd HA.out (by simp [dioramalaw36_plain.l0])
    | succ k1 =>
      have H := HA.out; clear HA; simp only [dioramalaw36_plain.l0] at H
      by_cases c2 : x4_1 < (l0.length : Int)
      · rw [if_pos c2] at H
        have c2b0 : decide (x4_1 < (l0.length : Int)) = true := decide_eq_true c2; clear c2
        by_cases c3 : 0 ≤ x4_1
        · rw [if_pos c3] at H
          have c3b0 : decide (0 ≤ x4_1) = true := decide_eq_true c3; clear c3
          by_cases c4 : x3_1.length < 2199023255552
          · rw [if_pos c4] at H
            have LMc4 := Aside0.mk c4; clear c4; obtain ⟨y206, hy206⟩ : ∃ y_ : List (S76), y_ = (x3_1 ++ [(⟨(rd_T61 l0 x4_1).f0, (rd_T61 l0 x4_1).f1, (rd_T61 l0 x4_1).f2, (rd_T61 l0 x4_1).f3, (rd_T61 l0 x4_1).f4, (rd_T61 l0 x4_1).f5⟩ : S76)]) := ⟨_, rfl⟩
            replace H : (dioramalaw36_plain.l0 k1 l0 y206 (wrap64 (x4_1 + 1))) = some r := by first | (rw [hy206]; with_reducible exact H) | (have H2_ := (Option.bind_some _ _).symm.trans H; rw [hy206]; with_reducible exact H2_) | (have H2_ := (Option.bind_some _ _).symm.trans H; with_reducible exact H2_) | with_reducible exact H | (rw [hy206]; exact H) | exact H
            have Ny206 := Aside0.mk hy206; clear hy206; have H' := Aside0.mk H; clear H
            try go_wp2
            have n0_ := Aside0.mk (Kd.V_drew HO_0.out); have n1_ := Aside0.mk (Kd.N_drew HO_3.out); have n2_ := Aside0.mk (below_drew1 HB.out); clear HO_0; clear HO_3; clear HB; have HO_0 := n0_; have HO_3 := n1_; have HB := n2_; clear n0_ n1_ n2_; have p200 : 0 ≤ (x4_1 : Int) := of_decide_eq_true (by first | (with_reducible assumption) | assumption); have q200 : x4_1 < (l0.length : Int) := of_decide_eq_true (by first | (with_reducible assumption) | assumption); obtain ⟨ad200, A200_5, c200_5, e200, hx200_0, hx200_1, hx200_2, hx200_3, hx200_4, hx200_5, hl200_5, hi200_5⟩ := at_T61 (Kd.V_reads' HO_0.out).2.2 x4_1 p200 q200
            cases e200
            obtain ⟨ce200, hce200, hMe200, hcc200⟩ := Kd.V_get HO_0.out z61 x4_1 p200 (by first | exact q200 | exact of_decide_eq_true (by first | (with_reducible assumption) | assumption) | (have e_ := (Kd.V_reads' HO_0.out).1; omega)); obtain ⟨ua200_5, uc200_5, rfl, ul200_5, ge200_5⟩ := k61_openF hMe200; have hv200_5 := hcc200 5 _ rfl; rw [add_field _ _ 5 (by omega)] at hv200_5; replace hv200_5 := Option.some.inj (hv200_5.symm.trans hx200_5)
            injection hv200_5 with hva_ hvn_ hvc_
            rw [hva_] at ge200_5; rw [hvc_] at ul200_5; have HL200_5 := Aside0.mk (show Kd.V (Kd.int .i64) 3 _ w.heap.size _ _ ((rd_T61 l0 x4_1).f5) from Kd.V_mk ul200_5 ge200_5); clear hva_ hvn_ hvc_ ge200_5 ul200_5; clear hcc200 hce200; have HR200_5 := Aside0.mk hi200_5; have HC200_5 := Aside0.mk hl200_5; clear hi200_5 hl200_5; replace p200 := eq_true p200; replace q200 := eq_true q200; have p201 : 0 ≤ (x4_1 : Int) := of_decide_eq_true (by first | (with_reducible assumption) | assumption); have q201 : x4_1 < (l0.length : Int) := of_decide_eq_true (by first | (with_reducible assumption) | assumption); obtain ⟨ad201, A201_5, c201_5, e201, hx201_0, hx201_1, hx201_2, hx201_3, hx201_4, hx201_5, hl201_5, hi201_5⟩ := at_T61 (Kd.V_reads' HO_0.out).2.2 x4_1 p201 q201; obtain rfl : ad200 = ad201 := (by injection e201); obtain ⟨ce201, hce201, hMe201, hcc201⟩ := Kd.V_get HO_0.out z61 x4_1 p201 (by first | exact q201 | exact of_decide_eq_true (by first | (with_reducible assumption) | assumption) | (have e_ := (Kd.V_reads' HO_0.out).1; omega)); obtain ⟨ua201_5, uc201_5, rfl, ul201_5, ge201_5⟩ := k61_openF hMe201; have hv201_5 := hcc201 5 _ rfl; rw [add_field _ _ 5 (by omega)] at hv201_5; replace hv201_5 := Option.some.inj (hv201_5.symm.trans hx201_5)
            injection hv201_5 with hva_ hvn_ hvc_
            rw [hva_] at ge201_5; rw [hvc_] at ul201_5; have HL201_5 := Aside0.mk (show Kd.V (Kd.int .i64) 3 _ w.heap.size _ _ ((rd_T61 l0 x4_1).f5) from Kd.V_mk ul201_5 ge201_5); clear hva_ hvn_ hvc_ ge201_5 ul201_5; clear hcc201 hce201; have HR201_5 := Aside0.mk hi201_5; have HC201_5 := Aside0.mk hl201_5; clear hi201_5 hl201_5; replace p201 := eq_true p201; replace q201 := eq_true q201; have ea_ := Option.some.inj (hx200_5.symm.trans hx201_5)
            injection ea_ with ea_ en_ ec_
            subst ea_; subst ec_; clear en_; have p202 : 0 ≤ (x4_1 : Int) := of_decide_eq_true (by first | (with_reducible assumption) | assumption); have q202 : x4_1 < (l0.length : Int) := of_decide_eq_true (by first | (with_reducible assumption) | assumption); obtain ⟨ad202, A202_5, c202_5, e202, hx202_0, hx202_1, hx202_2, hx202_3, hx202_4, hx202_5, hl202_5, hi202_5⟩ := at_T61 (Kd.V_reads' HO_0.out).2.2 x4_1 p202 q202; obtain rfl : ad200 = ad202 := (by injection e202); obtain ⟨ce202, hce202, hMe202, hcc202⟩ := Kd.V_get HO_0.out z61 x4_1 p202 (by first | exact q202 | exact of_decide_eq_true (by first | (with_reducible assumption) | assumption) | (have e_ := (Kd.V_reads' HO_0.out).1; omega)); obtain ⟨ua202_5, uc202_5, rfl, ul202_5, ge202_5⟩ := k61_openF hMe202; have hv202_5 := hcc202 5 _ rfl; rw [add_field _ _ 5 (by omega)] at hv202_5; replace hv202_5 := Option.some.inj (hv202_5.symm.trans hx202_5)
            injection hv202_5 with hva_ hvn_ hvc_
            rw [hva_] at ge202_5; rw [hvc_] at ul202_5; have HL202_5 := Aside0.mk (show Kd.V (Kd.int .i64) 3 _ w.heap.size _ _ ((rd_T61 l0 x4_1).f5) from Kd.V_mk ul202_5 ge202_5); clear hva_ hvn_ hvc_ ge202_5 ul202_5; clear hcc202 hce202; have HR202_5 := Aside0.mk hi202_5; have HC202_5 := Aside0.mk hl202_5; clear hi202_5 hl202_5; replace p202 := eq_true p202; replace q202 := eq_true q202; have ea_ := Option.some.inj (hx200_5.symm.trans hx202_5)
            injection ea_ with ea_ en_ ec_
            subst ea_; subst ec_; clear en_; have p203 : 0 ≤ (x4_1 : Int) := of_decide_eq_true (by first | (with_reducible assumption) | assumption); have q203 : x4_1 < (l0.length : Int) := of_decide_eq_true (by first | (with_reducible assumption) | assumption); obtain ⟨ad203, A203_5, c203_5, e203, hx203_0, hx203_1, hx203_2, hx203_3, hx203_4, hx203_5, hl203_5, hi203_5⟩ := at_T61 (Kd.V_reads' HO_0.out).2.2 x4_1 p203 q203; obtain rfl : ad200 = ad203 := (by injection e203); obtain ⟨ce203, hce203, hMe203, hcc203⟩ := Kd.V_get HO_0.out z61 x4_1 p203 (by first | exact q203 | exact of_decide_eq_true (by first | (with_reducible assumption) | assumption) | (have e_ := (Kd.V_reads' HO_0.out).1; omega)); obtain ⟨ua203_5, uc203_5, rfl, ul203_5, ge203_5⟩ := k61_openF hMe203; have hv203_5 := hcc203 5 _ rfl; rw [add_field _ _ 5 (by omega)] at hv203_5; replace hv203_5 := Option.some.inj (hv203_5.symm.trans hx203_5)
            injection hv203_5 with hva_ hvn_ hvc_
            rw [hva_] at ge203_5; rw [hvc_] at ul203_5; have HL203_5 := Aside0.mk (show Kd.V (Kd.int .i64) 3 _ w.heap.size _ _ ((rd_T61 l0 x4_1).f5) from Kd.V_mk ul203_5 ge203_5); clear hva_ hvn_ hvc_ ge203_5 ul203_5; clear hcc203 hce203; have HR203_5 := Aside0.mk hi203_5; have HC203_5 := Aside0.mk hl203_5; clear hi203_5 hl203_5; replace p203 := eq_true p203; replace q203 := eq_true q203; have ea_ := Option.some.inj (hx200_5.symm.trans hx203_5)
            injection ea_ with ea_ en_ ec_
            subst ea_; subst ec_; clear en_; have p204 : 0 ≤ (x4_1 : Int) := of_decide_eq_true (by first | (with_reducible assumption) | assumption); have q204 : x4_1 < (l0.length : Int) := of_decide_eq_true (by first | (with_reducible assumption) | assumption); obtain ⟨ad204, A204_5, c204_5, e204, hx204_0, hx204_1, hx204_2, hx204_3, hx204_4, hx204_5, hl204_5, hi204_5⟩ := at_T61 (Kd.V_reads' HO_0.out).2.2 x4_1 p204 q204; obtain rfl : ad200 = ad204 := (by injection e204); obtain ⟨ce204, hce204, hMe204, hcc204⟩ := Kd.V_get HO_0.out z61 x4_1 p204 (by first | exact q204 | exact of_decide_eq_true (by first | (with_reducible assumption) | assumption) | (have e_ := (Kd.V_reads' HO_0.out).1; omega)); obtain ⟨ua204_5, uc204_5, rfl, ul204_5, ge204_5⟩ := k61_openF hMe204; have hv204_5 := hcc204 5 _ rfl; rw [add_field _ _ 5 (by omega)] at hv204_5; replace hv204_5 := Option.some.inj (hv204_5.symm.trans hx204_5)
            injection hv204_5 with hva_ hvn_ hvc_
            rw [hva_] at ge204_5; rw [hvc_] at ul204_5; have HL204_5 := Aside0.mk (show Kd.V (Kd.int .i64) 3 _ w.heap.size _ _ ((rd_T61 l0 x4_1).f5) from Kd.V_mk ul204_5 ge204_5); clear hva_ hvn_ hvc_ ge204_5 ul204_5; clear hcc204 hce204; have HR204_5 := Aside0.mk hi204_5; have HC204_5 := Aside0.mk hl204_5; clear hi204_5 hl204_5; replace p204 := eq_true p204; replace q204 := eq_true q204; have ea_ := Option.some.inj (hx200_5.symm.trans hx204_5)
            injection ea_ with ea_ en_ ec_
            subst ea_; subst ec_; clear en_; have p205 : 0 ≤ (x4_1 : Int) := of_decide_eq_true (by first | (with_reducible assumption) | assumption); have q205 : x4_1 < (l0.length : Int) := of_decide_eq_true (by first | (with_reducible assumption) | assumption); obtain ⟨ad205, A205_5, c205_5, e205, hx205_0, hx205_1, hx205_2, hx205_3, hx205_4, hx205_5, hl205_5, hi205_5⟩ := at_T61 (Kd.V_reads' HO_0.out).2.2 x4_1 p205 q205; obtain rfl : ad200 = ad205 := (by injection e205); obtain ⟨ce205, hce205, hMe205, hcc205⟩ := Kd.V_get HO_0.out z61 x4_1 p205 (by first | exact q205 | exact of_decide_eq_true (by first | (with_reducible assumption) | assumption) | (have e_ := (Kd.V_reads' HO_0.out).1; omega)); obtain ⟨ua205_5, uc205_5, rfl, ul205_5, ge205_5⟩ := k61_openF hMe205; have hv205_5 := hcc205 5 _ rfl; rw [add_field _ _ 5 (by omega)] at hv205_5; replace hv205_5 := Option.some.inj (hv205_5.symm.trans hx205_5)
            injection hv205_5 with hva_ hvn_ hvc_
            rw [hva_] at ge205_5; rw [hvc_] at ul205_5; have HL205_5 := Aside0.mk (show Kd.V (Kd.int .i64) 3 _ w.heap.size _ _ ((rd_T61 l0 x4_1).f5) from Kd.V_mk ul205_5 ge205_5); clear hva_ hvn_ hvc_ ge205_5 ul205_5; clear hcc205 hce205; have HR205_5 := Aside0.mk hi205_5; have HC205_5 := Aside0.mk hl205_5; clear hi205_5 hl205_5; replace p205 := eq_true p205; replace q205 := eq_true q205; have ea_ := Option.some.inj (hx200_5.symm.trans hx205_5)
            injection ea_ with ea_ en_ ec_
            subst ea_; subst ec_; clear en_; refine start_ (n := 35) (S := fun w' => w'.cell? (ad200.add ((x4_1).toNat * 6)) = some (.int .i64 ((rd_T61 l0 x4_1).f0)) ∧ w'.cell? ⟨(ad200.add ((x4_1).toNat * 6)).block, (ad200.add ((x4_1).toNat * 6)).off + 1, none⟩ = some (.int .i64 ((rd_T61 l0 x4_1).f1)) ∧ w'.cell? ⟨(ad200.add ((x4_1).toNat * 6)).block, (ad200.add ((x4_1).toNat * 6)).off + 2, none⟩ = some (.int .i64 ((rd_T61 l0 x4_1).f2)) ∧ w'.cell? ⟨(ad200.add ((x4_1).toNat * 6)).block, (ad200.add ((x4_1).toNat * 6)).off + 3, none⟩ = some (.int .i64 ((rd_T61 l0 x4_1).f3)) ∧ w'.cell? ⟨(ad200.add ((x4_1).toNat * 6)).block, (ad200.add ((x4_1).toNat * 6)).off + 4, none⟩ = some (.int .i64 ((rd_T61 l0 x4_1).f4)) ∧ w'.cell? ⟨(ad200.add ((x4_1).toNat * 6)).block, (ad200.add ((x4_1).toNat * 6)).off + 5, none⟩ = some (.slice A200_5 ((rd_T61 l0 x4_1).f5).length c200_5) ∧ w'.cell? (ad200.add ((x4_1).toNat * 6)) = some (.int .i64 ((rd_T61 l0 x4_1).f0)) ∧ w'.cell? ⟨(ad200.add ((x4_1).toNat * 6)).block, (ad200.add ((x4_1).toNat * 6)).off + 1, none⟩ = some (.int .i64 ((rd_T61 l0 x4_1).f1)) ∧ w'.cell? ⟨(ad200.add ((x4_1).toNat * 6)).block, (ad200.add ((x4_1).toNat * 6)).off + 2, none⟩ = some (.int .i64 ((rd_T61 l0 x4_1).f2)) ∧ w'.cell? ⟨(ad200.add ((x4_1).toNat * 6)).block, (ad200.add ((x4_1).toNat * 6)).off + 3, none⟩ = some (.int .i64 ((rd_T61 l0 x4_1).f3)) ∧ w'.cell? ⟨(ad200.add ((x4_1).toNat * 6)).block, (ad200.add ((x4_1).toNat * 6)).off + 4, none⟩ = some (.int .i64 ((rd_T61 l0 x4_1).f4)) ∧ w'.cell? ⟨(ad200.add ((x4_1).toNat * 6)).block, (ad200.add ((x4_1).toNat * 6)).off + 5, none⟩ = some (.slice A200_5 ((rd_T61 l0 x4_1).f5).length c200_5) ∧ w'.cell? (ad200.add ((x4_1).toNat * 6)) = some (.int .i64 ((rd_T61 l0 x4_1).f0)) ∧ w'.cell? ⟨(ad200.add ((x4_1).toNat * 6)).block, (ad200.add ((x4_1).toNat * 6)).off + 1, none⟩ = some (.int .i64 ((rd_T61 l0 x4_1).f1)) ∧ w'.cell? ⟨(ad200.add ((x4_1).toNat * 6)).block, (ad200.add ((x4_1).toNat * 6)).off + 2, none⟩ = some (.int .i64 ((rd_T61 l0 x4_1).f2)) ∧ w'.cell? ⟨(ad200.add ((x4_1).toNat * 6)).block, (ad200.add ((x4_1).toNat * 6)).off + 3, none⟩ = some (.int .i64 ((rd_T61 l0 x4_1).f3)) ∧ w'.cell? ⟨(ad200.add ((x4_1).toNat * 6)).block, (ad200.add ((x4_1).toNat * 6)).off + 4, none⟩ = some (.int .i64 ((rd_T61 l0 x4_1).f4)) ∧ w'.cell? ⟨(ad200.add ((x4_1).toNat * 6)).block, (ad200.add ((x4_1).toNat * 6)).off + 5, none⟩ = some (.slice A200_5 ((rd_T61 l0 x4_1).f5).length c200_5) ∧ w'.cell? (ad200.add ((x4_1).toNat * 6)) = some (.int .i64 ((rd_T61 l0 x4_1).f0)) ∧ w'.cell? ⟨(ad200.add ((x4_1).toNat * 6)).block, (ad200.add ((x4_1).toNat * 6)).off + 1, none⟩ = some (.int .i64 ((rd_T61 l0 x4_1).f1)) ∧ w'.cell? ⟨(ad200.add ((x4_1).toNat * 6)).block, (ad200.add ((x4_1).toNat * 6)).off + 2, none⟩ = some (.int .i64 ((rd_T61 l0 x4_1).f2)) ∧ w'.cell? ⟨(ad200.add ((x4_1).toNat * 6)).block, (ad200.add ((x4_1).toNat * 6)).off + 3, none⟩ = some (.int .i64 ((rd_T61 l0 x4_1).f3)) ∧ w'.cell? ⟨(ad200.add ((x4_1).toNat * 6)).block, (ad200.add ((x4_1).toNat * 6)).off + 4, none⟩ = some (.int .i64 ((rd_T61 l0 x4_1).f4)) ∧ w'.cell? ⟨(ad200.add ((x4_1).toNat * 6)).block, (ad200.add ((x4_1).toNat * 6)).off + 5, none⟩ = some (.slice A200_5 ((rd_T61 l0 x4_1).f5).length c200_5) ∧ w'.cell? (ad200.add ((x4_1).toNat * 6)) = some (.int .i64 ((rd_T61 l0 x4_1).f0)) ∧ w'.cell? ⟨(ad200.add ((x4_1).toNat * 6)).block, (ad200.add ((x4_1).toNat * 6)).off + 1, none⟩ = some (.int .i64 ((rd_T61 l0 x4_1).f1)) ∧ w'.cell? ⟨(ad200.add ((x4_1).toNat * 6)).block, (ad200.add ((x4_1).toNat * 6)).off + 2, none⟩ = some (.int .i64 ((rd_T61 l0 x4_1).f2)) ∧ w'.cell? ⟨(ad200.add ((x4_1).toNat * 6)).block, (ad200.add ((x4_1).toNat * 6)).off + 3, none⟩ = some (.int .i64 ((rd_T61 l0 x4_1).f3)) ∧ w'.cell? ⟨(ad200.add ((x4_1).toNat * 6)).block, (ad200.add ((x4_1).toNat * 6)).off + 4, none⟩ = some (.int .i64 ((rd_T61 l0 x4_1).f4)) ∧ w'.cell? ⟨(ad200.add ((x4_1).toNat * 6)).block, (ad200.add ((x4_1).toNat * 6)).off + 5, none⟩ = some (.slice A200_5 ((rd_T61 l0 x4_1).f5).length c200_5) ∧ w'.cell? (ad200.add ((x4_1).toNat * 6)) = some (.int .i64 ((rd_T61 l0 x4_1).f0)) ∧ w'.cell? ⟨(ad200.add ((x4_1).toNat * 6)).block, (ad200.add ((x4_1).toNat * 6)).off + 1, none⟩ = some (.int .i64 ((rd_T61 l0 x4_1).f1)) ∧ w'.cell? ⟨(ad200.add ((x4_1).toNat * 6)).block, (ad200.add ((x4_1).toNat * 6)).off + 2, none⟩ = some (.int .i64 ((rd_T61 l0 x4_1).f2)) ∧ w'.cell? ⟨(ad200.add ((x4_1).toNat * 6)).block, (ad200.add ((x4_1).toNat * 6)).off + 3, none⟩ = some (.int .i64 ((rd_T61 l0 x4_1).f3)) ∧ w'.cell? ⟨(ad200.add ((x4_1).toNat * 6)).block, (ad200.add ((x4_1).toNat * 6)).off + 4, none⟩ = some (.int .i64 ((rd_T61 l0 x4_1).f4)) ∧ w'.cell? ⟨(ad200.add ((x4_1).toNat * 6)).block, (ad200.add ((x4_1).toNat * 6)).off + 5, none⟩ = some (.slice A200_5 ((rd_T61 l0 x4_1).f5).length c200_5)) (ds := [32, 33]) #[O_,O_,O_,O_,O_,O_,O_,O_,O_,O_,O_,O_,O_,O_,O_,O_,O_,O_,O_,O_,O_,O_,O_,O_,O_,O_,O_,O_,O_,O_,O_,O_,O_,O_,O_] (by kernel_rfl) rfl rfl ⟨hx200_0, hx200_1, hx200_2, hx200_3, hx200_4, hx200_5, hx201_0, hx201_1, hx201_2, hx201_3, hx201_4, hx201_5, hx202_0, hx202_1, hx202_2, hx202_3, hx202_4, hx202_5, hx203_0, hx203_1, hx203_2, hx203_3, hx203_4, hx203_5, hx204_0, hx204_1, hx204_2, hx204_3, hx204_4, hx204_5, hx205_0, hx205_1, hx205_2, hx205_3, hx205_4, hx205_5⟩ (fun hHeld => ?_); refine with_tabW dioramalaw36_plain.tab5 dioramalaw36_plain.bits5 (fun HT_ HW_ => ?_)
            generalize wr.drew = w5 at HO_0 HO_3 HB HL200_5 HL201_5 HL202_5 HL203_5 HL204_5 HL205_5 HR200_5 HR201_5 HR202_5 HR203_5 HR204_5 HR205_5 hx200_0 hx200_1 hx200_2 hx200_3 hx200_4 hx200_5 hx201_0 hx201_1 hx201_2 hx201_3 hx201_4 hx201_5 hx202_0 hx202_1 hx202_2 hx202_3 hx202_4 hx202_5 hx203_0 hx203_1 hx203_2 hx203_3 hx203_4 hx203_5 hx204_0 hx204_1 hx204_2 hx204_3 hx204_4 hx204_5 hx205_0 hx205_1 hx205_2 hx205_3 hx205_4 hx205_5 hHeld ⊢; refine pure_ (i := 0) (N := some 11) (v := ?_) (a' := ?_) #[I_,O_,O_,O_,O_,O_,O_,O_,O_,O_,O_,O_,O_,O_,O_,O_,O_,O_,O_,O_,O_,O_,O_,O_,O_,O_,O_,O_,O_,O_,O_,O_,O_,O_,O_] rfl rfl (any_of HT_.out (by kernel_rfl)) (fun _ _ _ h => h) (Or.inl ⟨by rfl, ?_⟩) ?_ ?_; rotate_left; (· intro w'; go_simp; with_reducible rfl); rotate_left; (· simp only [Act.put, sA_, sB_, sC_, i64_w, i32_w]; rfl); refine pure_ (i := 1) (N := some 12) (v := ?_) (a' := ?_) #[I_,I_,O_,O_,O_,O_,O_,O_,O_,O_,O_,O_,O_,O_,O_,O_,O_,O_,O_,O_,O_,O_,O_,O_,O_,O_,O_,O_,O_,O_,O_,O_,O_,O_,O_] rfl rfl (any_of HT_.out (by kernel_rfl)) (fun _ _ _ h => h) (Or.inl ⟨by rfl, ?_⟩) ?_ ?_; rotate_left; (· intro w'; go_simp; with_reducible rfl); rotate_left; (· simp only [Act.put, sA_, sB_, sC_, i64_w, i32_w]; rfl); refine pure_ (i := 2) (N := some 13) (v := ?_) (a' := ?_) #[I_,I_,I_,O_,O_,O_,O_,O_,O_,O_,O_,O_,O_,O_,O_,O_,O_,O_,O_,O_,O_,O_,O_,O_,O_,O_,O_,O_,O_,O_,O_,O_,O_,O_,O_] rfl rfl (any_of HT_.out (by kernel_rfl)) (fun _ _ _ h => h) (Or.inl ⟨by rfl, ?_⟩) ?_ ?_; rotate_left; (· intro w'; go_simp; with_reducible rfl); rotate_left; (· simp only [Act.put, sA_, sB_, sC_, i64_w, i32_w]; rfl); refine pure_ (i := 3) (N := some 14) (v := ?_) (a' := ?_) #[I_,I_,I_,I_,O_,O_,O_,O_,O_,O_,O_,O_,O_,O_,O_,O_,O_,O_,O_,O_,O_,O_,O_,O_,O_,O_,O_,O_,O_,O_,O_,O_,O_,O_,O_] rfl rfl (any_of HT_.out (by kernel_rfl)) (fun _ _ _ h => h) (Or.inl ⟨by rfl, ?_⟩) ?_ ?_; rotate_left; (· intro w'; go_simp; with_reducible rfl); rotate_left; (· simp only [Act.put, sA_, sB_, sC_, i64_w, i32_w]; rfl); refine pure_ (i := 4) (N := some 15) (v := ?_) (a' := ?_) #[I_,I_,I_,I_,I_,O_,O_,O_,O_,O_,O_,O_,O_,O_,O_,O_,O_,O_,O_,O_,O_,O_,O_,O_,O_,O_,O_,O_,O_,O_,O_,O_,O_,O_,O_] rfl rfl (any_of HT_.out (by kernel_rfl)) (fun _ _ _ h => h) (Or.inl ⟨by rfl, ?_⟩) ?_ ?_
            rotate_left; (· intro w'; go_simp; with_reducible rfl); rotate_left; (· simp only [Act.put, sA_, sB_, sC_, i64_w, i32_w]; rfl); refine pure_ (i := 6) (N := some 17) (v := ?_) (a' := ?_) #[I_,I_,I_,I_,I_,O_,I_,O_,O_,O_,O_,O_,O_,O_,O_,O_,O_,O_,O_,O_,O_,O_,O_,O_,O_,O_,O_,O_,O_,O_,O_,O_,O_,O_,O_] rfl rfl (any_of HT_.out (by kernel_rfl)) (fun _ _ _ h => h) (Or.inl ⟨by rfl, ?_⟩) ?_ ?_; rotate_left; (· intro w'; go_simp; with_reducible rfl); rotate_left; (· simp only [Act.put, sA_, sB_, sC_, i64_w, i32_w]; rfl); refine pure_ (i := 7) (N := some 18) (v := ?_) (a' := ?_) #[I_,I_,I_,I_,I_,O_,I_,I_,O_,O_,O_,O_,O_,O_,O_,O_,O_,O_,O_,O_,O_,O_,O_,O_,O_,O_,O_,O_,O_,O_,O_,O_,O_,O_,O_] rfl rfl (any_of HT_.out (by kernel_rfl)) (fun _ _ _ h => h) (Or.inl ⟨by rfl, ?_⟩) ?_ ?_; rotate_left; (· intro w'; go_simp; with_reducible rfl); rotate_left; (· simp only [Act.put, sA_, sB_, sC_, i64_w, i32_w]; rfl); refine pure_ (i := 8) (N := some 19) (v := ?_) (a' := ?_) #[I_,I_,I_,I_,I_,O_,I_,I_,I_,O_,O_,O_,O_,O_,O_,O_,O_,O_,O_,O_,O_,O_,O_,O_,O_,O_,O_,O_,O_,O_,O_,O_,O_,O_,O_] rfl rfl (any_of HT_.out (by kernel_rfl)) (fun _ _ _ h => h) (Or.inl ⟨by rfl, ?_⟩) ?_ ?_; rotate_left; (· intro w'; go_simp; with_reducible rfl); rotate_left; (· simp only [Act.put, sA_, sB_, sC_, i64_w, i32_w]; rfl); refine pure_ (i := 9) (N := some 20) (v := ?_) (a' := ?_) #[I_,I_,I_,I_,I_,O_,I_,I_,I_,I_,O_,O_,O_,O_,O_,O_,O_,O_,O_,O_,O_,O_,O_,O_,O_,O_,O_,O_,O_,O_,O_,O_,O_,O_,O_] rfl rfl (any_of HT_.out (by kernel_rfl)) (fun _ _ _ h => h) (Or.inl ⟨by rfl, ?_⟩) ?_ ?_; rotate_left; (· intro w'; go_simp; with_reducible rfl); rotate_left; (· simp only [Act.put, sA_, sB_, sC_, i64_w, i32_w]; rfl); refine pure_ (i := 11) (N := some 22) (v := ?_) (a' := ?_) #[I_,I_,I_,I_,I_,O_,I_,I_,I_,I_,O_,I_,O_,O_,O_,O_,O_,O_,O_,O_,O_,O_,O_,O_,O_,O_,O_,O_,O_,O_,O_,O_,O_,O_,O_] rfl rfl (any_of HT_.out (by kernel_rfl)) (fun _ _ _ h => h) (Or.inl ⟨by rfl, ?_⟩) ?_ ?_; rotate_left; (· intro w'; go_simp; with_reducible rfl); rotate_left; (· simp only [Act.put, sA_, sB_, sC_, i64_w, i32_w]; rfl); refine pure_ (i := 12) (N := some 23) (v := ?_) (a' := ?_) #[I_,I_,I_,I_,I_,O_,I_,I_,I_,I_,O_,I_,I_,O_,O_,O_,O_,O_,O_,O_,O_,O_,O_,O_,O_,O_,O_,O_,O_,O_,O_,O_,O_,O_,O_] rfl rfl (any_of HT_.out (by kernel_rfl)) (fun _ _ _ h => h) (Or.inl ⟨by rfl, ?_⟩) ?_ ?_
            rotate_left; (· intro w'; go_simp; with_reducible rfl); rotate_left; (· simp only [Act.put, sA_, sB_, sC_, i64_w, i32_w]; rfl); refine pure_ (i := 13) (N := some 24) (v := ?_) (a' := ?_) #[I_,I_,I_,I_,I_,O_,I_,I_,I_,I_,O_,I_,I_,I_,O_,O_,O_,O_,O_,O_,O_,O_,O_,O_,O_,O_,O_,O_,O_,O_,O_,O_,O_,O_,O_] rfl rfl (any_of HT_.out (by kernel_rfl)) (fun _ _ _ h => h) (Or.inl ⟨by rfl, ?_⟩) ?_ ?_; rotate_left; (· intro w'; go_simp; with_reducible rfl); rotate_left; (· simp only [Act.put, sA_, sB_, sC_, i64_w, i32_w]; rfl); refine pure_ (i := 14) (N := some 25) (v := ?_) (a' := ?_) #[I_,I_,I_,I_,I_,O_,I_,I_,I_,I_,O_,I_,I_,I_,I_,O_,O_,O_,O_,O_,O_,O_,O_,O_,O_,O_,O_,O_,O_,O_,O_,O_,O_,O_,O_] rfl rfl (any_of HT_.out (by kernel_rfl)) (fun _ _ _ h => h) (Or.inl ⟨by rfl, ?_⟩) ?_ ?_; rotate_left; (· intro w'; go_simp; with_reducible rfl); rotate_left; (· simp only [Act.put, sA_, sB_, sC_, i64_w, i32_w]; rfl); refine pure_ (i := 16) (N := some 27) (v := ?_) (a' := ?_) #[I_,I_,I_,I_,I_,O_,I_,I_,I_,I_,O_,I_,I_,I_,I_,O_,I_,O_,O_,O_,O_,O_,O_,O_,O_,O_,O_,O_,O_,O_,O_,O_,O_,O_,O_] rfl rfl (any_of HT_.out (by kernel_rfl)) (fun _ _ _ h => h) (Or.inl ⟨by rfl, ?_⟩) ?_ ?_; rotate_left; (· intro w'; go_simp; with_reducible rfl); rotate_left; (· simp only [Act.put, sA_, sB_, sC_, i64_w, i32_w]; rfl); refine pure_ (i := 17) (N := some 28) (v := ?_) (a' := ?_) #[I_,I_,I_,I_,I_,O_,I_,I_,I_,I_,O_,I_,I_,I_,I_,O_,I_,I_,O_,O_,O_,O_,O_,O_,O_,O_,O_,O_,O_,O_,O_,O_,O_,O_,O_] rfl rfl (any_of HT_.out (by kernel_rfl)) (fun _ _ _ h => h) (Or.inl ⟨by rfl, ?_⟩) ?_ ?_; rotate_left; (· intro w'; go_simp; with_reducible rfl); rotate_left; (· simp only [Act.put, sA_, sB_, sC_, i64_w, i32_w]; rfl); refine pure_ (i := 18) (N := some 29) (v := ?_) (a' := ?_) #[I_,I_,I_,I_,I_,O_,I_,I_,I_,I_,O_,I_,I_,I_,I_,O_,I_,I_,I_,O_,O_,O_,O_,O_,O_,O_,O_,O_,O_,O_,O_,O_,O_,O_,O_] rfl rfl (any_of HT_.out (by kernel_rfl)) (fun _ _ _ h => h) (Or.inl ⟨by rfl, ?_⟩) ?_ ?_; rotate_left; (· intro w'; go_simp; with_reducible rfl); rotate_left; (· simp only [Act.put, sA_, sB_, sC_, i64_w, i32_w]; rfl); refine pure_ (i := 19) (N := some 30) (v := ?_) (a' := ?_) #[I_,I_,I_,I_,I_,O_,I_,I_,I_,I_,O_,I_,I_,I_,I_,O_,I_,I_,I_,I_,O_,O_,O_,O_,O_,O_,O_,O_,O_,O_,O_,O_,O_,O_,O_] rfl rfl (any_of HT_.out (by kernel_rfl)) (fun _ _ _ h => h) (Or.inl ⟨by rfl, ?_⟩) ?_ ?_
            rotate_left; (· intro w'; go_simp; with_reducible rfl); rotate_left; (· simp only [Act.put, sA_, sB_, sC_, i64_w, i32_w]; rfl); refine pure_ (i := 21) (N := some 32) (v := ?_) (a' := ?_) #[I_,I_,I_,I_,I_,O_,I_,I_,I_,I_,O_,I_,I_,I_,I_,O_,I_,I_,I_,I_,O_,I_,O_,O_,O_,O_,O_,O_,O_,O_,O_,O_,O_,O_,O_] rfl rfl (any_of HT_.out (by kernel_rfl)) (fun _ _ _ h => h) (Or.inl ⟨by rfl, ?_⟩) ?_ ?_; rotate_left; (· intro w'; go_simp; with_reducible rfl); rotate_left; (· simp only [Act.put, sA_, sB_, sC_, i64_w, i32_w]; rfl); refine pure_ (i := 22) (N := some 33) (v := ?_) (a' := ?_) #[I_,I_,I_,I_,I_,O_,I_,I_,I_,I_,O_,I_,I_,I_,I_,O_,I_,I_,I_,I_,O_,I_,I_,O_,O_,O_,O_,O_,O_,O_,O_,O_,O_,O_,O_] rfl rfl (any_of HT_.out (by kernel_rfl)) (fun _ _ _ h => h) (Or.inl ⟨by rfl, ?_⟩) ?_ ?_; rotate_left; (· intro w'; go_simp; with_reducible rfl); rotate_left; (· simp only [Act.put, sA_, sB_, sC_, i64_w, i32_w]; rfl); refine pure_ (i := 23) (N := some 34) (v := ?_) (a' := ?_) #[I_,I_,I_,I_,I_,O_,I_,I_,I_,I_,O_,I_,I_,I_,I_,O_,I_,I_,I_,I_,O_,I_,I_,I_,O_,O_,O_,O_,O_,O_,O_,O_,O_,O_,O_] rfl rfl (any_of HT_.out (by kernel_rfl)) (fun _ _ _ h => h) (Or.inl ⟨by rfl, ?_⟩) ?_ ?_; rotate_left; (· intro w'; go_simp; with_reducible rfl); rotate_left; (· simp only [Act.put, sA_, sB_, sC_, i64_w, i32_w]; rfl); refine pure_ (i := 24) (N := some 35) (v := ?_) (a' := ?_) #[I_,I_,I_,I_,I_,O_,I_,I_,I_,I_,O_,I_,I_,I_,I_,O_,I_,I_,I_,I_,O_,I_,I_,I_,I_,O_,O_,O_,O_,O_,O_,O_,O_,O_,O_] rfl rfl (any_of HT_.out (by kernel_rfl)) (fun _ _ _ h => h) (Or.inl ⟨by rfl, ?_⟩) ?_ ?_; rotate_left; (· intro w'; go_simp; with_reducible rfl); rotate_left; (· simp only [Act.put, sA_, sB_, sC_, i64_w, i32_w]; rfl); refine pure_ (i := 26) (N := some 37) (v := ?_) (a' := ?_) #[I_,I_,I_,I_,I_,O_,I_,I_,I_,I_,O_,I_,I_,I_,I_,O_,I_,I_,I_,I_,O_,I_,I_,I_,I_,O_,I_,O_,O_,O_,O_,O_,O_,O_,O_] rfl rfl (any_of HT_.out (by kernel_rfl)) (fun _ _ _ h => h) (Or.inl ⟨by rfl, ?_⟩) ?_ ?_; rotate_left; (· intro w'; go_simp; with_reducible rfl); rotate_left; (· simp only [Act.put, sA_, sB_, sC_, i64_w, i32_w]; rfl); refine pure_ (i := 27) (N := some 38) (v := ?_) (a' := ?_) #[I_,I_,I_,I_,I_,O_,I_,I_,I_,I_,O_,I_,I_,I_,I_,O_,I_,I_,I_,I_,O_,I_,I_,I_,I_,O_,I_,I_,O_,O_,O_,O_,O_,O_,O_] rfl rfl (any_of HT_.out (by kernel_rfl)) (fun _ _ _ h => h) (Or.inl ⟨by rfl, ?_⟩) ?_ ?_
            rotate_left; (· intro w'; go_simp; with_reducible rfl); rotate_left; (· simp only [Act.put, sA_, sB_, sC_, i64_w, i32_w]; rfl); refine pure_ (i := 28) (N := some 39) (v := ?_) (a' := ?_) #[I_,I_,I_,I_,I_,O_,I_,I_,I_,I_,O_,I_,I_,I_,I_,O_,I_,I_,I_,I_,O_,I_,I_,I_,I_,O_,I_,I_,I_,O_,O_,O_,O_,O_,O_] rfl rfl (any_of HT_.out (by kernel_rfl)) (fun _ _ _ h => h) (Or.inl ⟨by rfl, ?_⟩) ?_ ?_; rotate_left; (· intro w'; go_simp; with_reducible rfl); rotate_left; (· simp only [Act.put, sA_, sB_, sC_, i64_w, i32_w]; rfl); refine pure_ (i := 29) (N := some 40) (v := ?_) (a' := ?_) #[I_,I_,I_,I_,I_,O_,I_,I_,I_,I_,O_,I_,I_,I_,I_,O_,I_,I_,I_,I_,O_,I_,I_,I_,I_,O_,I_,I_,I_,I_,O_,O_,O_,O_,O_] rfl rfl (any_of HT_.out (by kernel_rfl)) (fun _ _ _ h => h) (Or.inl ⟨by rfl, ?_⟩) ?_ ?_; rotate_left; (· intro w'; go_simp; with_reducible rfl); rotate_left; (· simp only [Act.put, sA_, sB_, sC_, i64_w, i32_w]; rfl); refine take_ (i := 5) (N := some 16) (v := ?_) (a' := ?_) #[I_,I_,I_,I_,I_,I_,I_,I_,I_,I_,O_,I_,I_,I_,I_,O_,I_,I_,I_,I_,O_,I_,I_,I_,I_,O_,I_,I_,I_,I_,O_,O_,O_,O_,O_] rfl rfl (take_ofW HT_.out HW_.out (by kernel_rfl)) (fun _ _ _ h => h) (Or.inl ⟨by rfl, ?_⟩) hHeld ?_ ?_; rotate_left; (· rintro w' ⟨s0, s1, s2, s3, s4, s5, s6, s7, s8, s9, s10, s11, s12, s13, s14, s15, s16, s17, s18, s19, s20, s21, s22, s23, s24, s25, s26, s27, s28, s29, s30, s31, s32, s33, s34, s35⟩; go_simp; with_reducible rfl); rotate_left; (· simp only [Act.put, sA_, sB_, sC_, i64_w, i32_w]; rfl); refine take_ (i := 10) (N := some 21) (v := ?_) (a' := ?_) #[I_,I_,I_,I_,I_,I_,I_,I_,I_,I_,I_,I_,I_,I_,I_,O_,I_,I_,I_,I_,O_,I_,I_,I_,I_,O_,I_,I_,I_,I_,O_,O_,O_,O_,O_] rfl rfl (take_ofW HT_.out HW_.out (by kernel_rfl)) (fun _ _ _ h => h) (Or.inl ⟨by rfl, ?_⟩) hHeld ?_ ?_; rotate_left; (· rintro w' ⟨s0, s1, s2, s3, s4, s5, s6, s7, s8, s9, s10, s11, s12, s13, s14, s15, s16, s17, s18, s19, s20, s21, s22, s23, s24, s25, s26, s27, s28, s29, s30, s31, s32, s33, s34, s35⟩; go_simp; with_reducible rfl); rotate_left; (· simp only [Act.put, sA_, sB_, sC_, i64_w, i32_w]; rfl); refine take_ (i := 15) (N := some 26) (v := ?_) (a' := ?_) #[I_,I_,I_,I_,I_,I_,I_,I_,I_,I_,I_,I_,I_,I_,I_,I_,I_,I_,I_,I_,O_,I_,I_,I_,I_,O_,I_,I_,I_,I_,O_,O_,O_,O_,O_] rfl rfl (take_ofW HT_.out HW_.out (by kernel_rfl)) (fun _ _ _ h => h) (Or.inl ⟨by rfl, ?_⟩) hHeld ?_ ?_
            rotate_left; (· rintro w' ⟨s0, s1, s2, s3, s4, s5, s6, s7, s8, s9, s10, s11, s12, s13, s14, s15, s16, s17, s18, s19, s20, s21, s22, s23, s24, s25, s26, s27, s28, s29, s30, s31, s32, s33, s34, s35⟩; go_simp; with_reducible rfl); rotate_left; (· simp only [Act.put, sA_, sB_, sC_, i64_w, i32_w]; rfl); refine take_ (i := 20) (N := some 31) (v := ?_) (a' := ?_) #[I_,I_,I_,I_,I_,I_,I_,I_,I_,I_,I_,I_,I_,I_,I_,I_,I_,I_,I_,I_,I_,I_,I_,I_,I_,O_,I_,I_,I_,I_,O_,O_,O_,O_,O_] rfl rfl (take_ofW HT_.out HW_.out (by kernel_rfl)) (fun _ _ _ h => h) (Or.inl ⟨by rfl, ?_⟩) hHeld ?_ ?_; rotate_left; (· rintro w' ⟨s0, s1, s2, s3, s4, s5, s6, s7, s8, s9, s10, s11, s12, s13, s14, s15, s16, s17, s18, s19, s20, s21, s22, s23, s24, s25, s26, s27, s28, s29, s30, s31, s32, s33, s34, s35⟩; go_simp; with_reducible rfl); rotate_left; (· simp only [Act.put, sA_, sB_, sC_, i64_w, i32_w]; rfl); refine take_ (i := 25) (N := some 36) (v := ?_) (a' := ?_) #[I_,I_,I_,I_,I_,I_,I_,I_,I_,I_,I_,I_,I_,I_,I_,I_,I_,I_,I_,I_,I_,I_,I_,I_,I_,I_,I_,I_,I_,I_,O_,O_,O_,O_,O_] rfl rfl (take_ofW HT_.out HW_.out (by kernel_rfl)) (fun _ _ _ h => h) (Or.inl ⟨by rfl, ?_⟩) hHeld ?_ ?_; rotate_left; (· rintro w' ⟨s0, s1, s2, s3, s4, s5, s6, s7, s8, s9, s10, s11, s12, s13, s14, s15, s16, s17, s18, s19, s20, s21, s22, s23, s24, s25, s26, s27, s28, s29, s30, s31, s32, s33, s34, s35⟩; go_simp; with_reducible rfl); rotate_left; (· simp only [Act.put, sA_, sB_, sC_, i64_w, i32_w]; rfl); refine take_ (i := 30) (N := some 41) (v := ?_) (a' := ?_) #[I_,I_,I_,I_,I_,I_,I_,I_,I_,I_,I_,I_,I_,I_,I_,I_,I_,I_,I_,I_,I_,I_,I_,I_,I_,I_,I_,I_,I_,I_,I_,O_,O_,O_,O_] rfl rfl (take_ofW HT_.out HW_.out (by kernel_rfl)) (fun _ _ _ h => h) (Or.inl ⟨by rfl, ?_⟩) hHeld ?_ ?_; rotate_left; (· rintro w' ⟨s0, s1, s2, s3, s4, s5, s6, s7, s8, s9, s10, s11, s12, s13, s14, s15, s16, s17, s18, s19, s20, s21, s22, s23, s24, s25, s26, s27, s28, s29, s30, s31, s32, s33, s34, s35⟩; go_simp; with_reducible rfl); rotate_left; (· simp only [Act.put, sA_, sB_, sC_, i64_w, i32_w]; rfl); refine pure_ (i := 31) (N := some 42) (v := ?_) (a' := ?_) #[I_,I_,I_,I_,I_,I_,I_,I_,I_,I_,I_,I_,I_,I_,I_,I_,I_,I_,I_,I_,I_,I_,I_,I_,I_,I_,I_,I_,I_,I_,I_,I_,O_,O_,O_] rfl rfl (any_of HT_.out (by kernel_rfl)) (fun _ _ _ h => h) (Or.inl ⟨by rfl, ?_⟩) ?_ ?_; rotate_left; (· intro w'; go_simp; with_reducible rfl); rotate_left; (· simp only [Act.put, sA_, sB_, sC_, i64_w, i32_w]; rfl)
            refine last_ (i := 32) (N := some 43) #[I_,I_,I_,I_,I_,I_,I_,I_,I_,I_,I_,I_,I_,I_,I_,I_,I_,I_,I_,I_,I_,I_,I_,I_,I_,I_,I_,I_,I_,I_,I_,I_,I_,O_,O_] rfl rfl (one_of HT_.out (by kernel_rfl)) (by decide) (fun K hK => ?_); refine value_ (w1 := ?_) (v := ?_) (by rfl) rfl ?_ ?_; rotate_left 2
            · go_simp
              constructor; (· rfl); (· rfl)
            refine hK.out _ _ ?_; clear hK K; refine norm_ (a' := ?_) ?_ ?_; rotate_left
            · show Act.put _ (some 43) _ = _
              simp only [Act.put, sA_, sB_, sC_, i64_w, i32_w]; rfl
            refine last_ (i := 33) (N := some 44) #[I_,I_,I_,I_,I_,I_,I_,I_,I_,I_,I_,I_,I_,I_,I_,I_,I_,I_,I_,I_,I_,I_,I_,I_,I_,I_,I_,I_,I_,I_,I_,I_,I_,I_,O_] rfl rfl (one_of HT_.out (by kernel_rfl)) (by decide) (fun K hK => ?_); refine Kd.N_append_step k76 (w0 := w) w.heap.size (by rfl) (.tmp 11) (.tmp 43) 34 76 (.agg #[(.int .i64 0), (.int .i64 0), (.int .i64 0), (.int .i64 0), (.int .i64 0), (.slice none 0 0)]) 64 rfl Try.underlying34 info76 rfl (by decide) (by omega) u3 x3_1 (⟨(rd_T61 l0 x4_1).f0, (rd_T61 l0 x4_1).f1, (rd_T61 l0 x4_1).f2, (rd_T61 l0 x4_1).f3, (rd_T61 l0 x4_1).f4, (rd_T61 l0 x4_1).f5⟩ : S76) [.int .i64 ((rd_T61 l0 x4_1).f0), .int .i64 ((rd_T61 l0 x4_1).f1), .int .i64 ((rd_T61 l0 x4_1).f2), .int .i64 ((rd_T61 l0 x4_1).f3), .int .i64 ((rd_T61 l0 x4_1).f4), .slice A200_5 ((rd_T61 l0 x4_1).f5).length c200_5] (fun k_ => (P0_ k_ ∨ w.heap.size ≤ k_)) (fun k_ => ((fun k_ => (P0_ k_ ∨ w.heap.size ≤ k_))) k_ ∧ some k_ ≠ (u3 : Value).ownBlock) rfl rfl ?aP (fun _ hk => hk) ?aF ?aO ?aB ?aS ?aL ?_
            (case aP => exact (k76_mkF _ _ (⟨(rd_T61 l0 x4_1).f0, (rd_T61 l0 x4_1).f1, (rd_T61 l0 x4_1).f2, (rd_T61 l0 x4_1).f3, (rd_T61 l0 x4_1).f4, (rd_T61 l0 x4_1).f5⟩ : S76) (Kd.V_reads' (Kd.V_mono (ok' := (fun k_ => ((fun k_ => (P0_ k_ ∨ w.heap.size ≤ k_))) k_ ∧ some k_ ≠ (u3 : Value).ownBlock)) (HL205_5.out) (fun k_ hk => ⟨hk.1, hk.2⟩))).2.1 (Kd.V_F (Kd.V_mono (ok' := (fun k_ => ((fun k_ => (P0_ k_ ∨ w.heap.size ≤ k_))) k_ ∧ some k_ ≠ (u3 : Value).ownBlock)) (HL205_5.out) (fun k_ hk => ⟨hk.1, hk.2⟩)))))
            (case aB => exact (by repeat (first | (with_reducible first | exact HB.out | apply below_alloc | apply pw_below_drewN | apply below_drew1) | exact HB.out)))
            (case aF => exact (fun k_ hk => (.inr (Nat.le_trans (below_size (by repeat (first | (with_reducible first | exact HB.out | apply below_alloc | apply pw_below_drewN | apply below_drew1) | exact HB.out))) hk))))
            (case aO => exact (by (with_reducible repeat (first | apply Kd.N_alloc | apply Kd.N_drewN | apply Kd.N_drew)); exact HO_3.out))
            (case aS => exact (below_size (by repeat (first | (with_reducible first | exact HB.out | apply below_alloc | apply pw_below_drewN | apply below_drew1) | exact HB.out))))
            (case aL => have := LMc4.out; omega)
            intro v207 w6 ho hb hg hat; rw [← Ny206.out] at ho; have n0_ := Aside0.mk (Kd.V_afterv (ok := (fun k_ => (P0_ k_ ∨ w.heap.size ≤ k_))) (by (with_reducible repeat (first | apply Kd.V_alloc | apply Kd.V_drewN | apply Kd.V_drew)); exact HO_0.out) hg hat); have n1_ := Aside0.mk (Kd.V_afterv (ok := (fun k_ => (P0_ k_ ∨ w.heap.size ≤ k_))) (by (with_reducible repeat (first | apply Kd.V_alloc | apply Kd.V_drewN | apply Kd.V_drew)); exact HL200_5.out) hg hat); have n2_ := Aside0.mk (Kd.V_afterv (ok := (fun k_ => (P0_ k_ ∨ w.heap.size ≤ k_))) (by (with_reducible repeat (first | apply Kd.V_alloc | apply Kd.V_drewN | apply Kd.V_drew)); exact HL201_5.out) hg hat); have n3_ := Aside0.mk (Kd.V_afterv (ok := (fun k_ => (P0_ k_ ∨ w.heap.size ≤ k_))) (by (with_reducible repeat (first | apply Kd.V_alloc | apply Kd.V_drewN | apply Kd.V_drew)); exact HL202_5.out) hg hat); have n4_ := Aside0.mk (Kd.V_afterv (ok := (fun k_ => (P0_ k_ ∨ w.heap.size ≤ k_))) (by (with_reducible repeat (first | apply Kd.V_alloc | apply Kd.V_drewN | apply Kd.V_drew)); exact HL203_5.out) hg hat); have n5_ := Aside0.mk (Kd.V_afterv (ok := (fun k_ => (P0_ k_ ∨ w.heap.size ≤ k_))) (by (with_reducible repeat (first | apply Kd.V_alloc | apply Kd.V_drewN | apply Kd.V_drew)); exact HL204_5.out) hg hat); have n6_ := Aside0.mk (Kd.V_afterv (ok := (fun k_ => (P0_ k_ ∨ w.heap.size ≤ k_))) (by (with_reducible repeat (first | apply Kd.V_alloc | apply Kd.V_drewN | apply Kd.V_drew)); exact HL205_5.out) hg hat); have n7_ := Aside0.mk (hb); have n8_ := Aside0.mk (ho); clear HO_0; clear HL200_5; clear HL201_5; clear HL202_5; clear HL203_5; clear HL204_5; clear HL205_5; clear HB; clear HO_3; have HO_0 := n0_; have HL200_5 := n1_; have HL201_5 := n2_; have HL202_5 := n3_; have HL203_5 := n4_; have HL204_5 := n5_; have HL205_5 := n6_; have HB := n7_; have HO208 := n8_; clear n0_ n1_ n2_ n3_ n4_ n5_ n6_ n7_ n8_; clear ho hb hg hat; refine hK.out _ _ ?_; clear hK K; refine norm_ (a' := ?_) ?_ ?_; rotate_left
            · show Act.put _ (some 44) _ = _
              simp only [Act.put, sA_, sB_, sC_, i64_w, i32_w]; rfl
            refine pure_ (i := 34) (N := some 3) (v := ?_) (a' := ?_) #[I_,I_,I_,I_,I_,I_,I_,I_,I_,I_,I_,I_,I_,I_,I_,I_,I_,I_,I_,I_,I_,I_,I_,I_,I_,I_,I_,I_,I_,I_,I_,I_,I_,I_,I_] rfl rfl (any_of HT_.out (by kernel_rfl)) (fun _ _ _ h => h) (Or.inl ⟨by rfl, ?_⟩) ?_ ?_; rotate_left; (· intro w'; go_simp; with_reducible rfl); rotate_left; (· simp only [Act.put, sA_, sB_, sC_, i64_w, i32_w]; rfl); refine done_ (done_of HT_.out (by kernel_rfl)) ?_
            try go_wp2
            go_roundg k1
            case measure => have := HK1.out; omega
            case rel => exact ⟨(y206), (wrap64 (x4_1 + 1)), (by first | rfl | (simp; done) | (simp [*]; done)), H', ⟨by have := HK1.out; omega⟩, ⟨by (with_reducible repeat (first | apply Kd.V_alloc | apply Kd.V_drewN | apply Kd.V_drew)); exact HO_0.out⟩, ⟨by (with_reducible repeat (first | apply Kd.N_alloc | apply Kd.N_drewN | apply Kd.N_drew)); exact HO208.out⟩, ⟨by repeat (first | (with_reducible first | exact HB.out | apply below_alloc | apply pw_below_drewN | apply below_drew1) | exact HB.out)⟩⟩
          (· rw [if_neg c4] at H; exact absurd H (by simp))
        (· rw [if_neg c3] at H; exact absurd H (by simp))
      (· rw [if_neg c2] at H; have c2b0 : decide (x4_1 < (l0.length : Int)) = false := decide_eq_false c2; clear c2; obtain rfl := Option.some.inj H; go_wp2; go_ret; exact ⟨_, by first | rfl | (simp [errW_none, errW_some] <;> rfl) | (simp [*, errW_none, errW_some] <;> rfl), by (with_reducible repeat (first | apply Kd.N_alloc | apply Kd.N_drewN | apply Kd.N_drew)); exact HO_3.out, by repeat (first | (with_reducible first | exact HB.out | apply below_alloc | apply pw_below_drewN | apply below_drew1) | exact HB.out)⟩)
end Go.Proofs.Ytcgpemefmakjiaa.PX
namespace Go.Proofs.Ytcgpemefmakjiaa.PX
open Go.RowKit Go.Proofs.YtcgpemefmakjiaaW.PrintWords Go.Proofs.YtcgpemefmakjiaaW.PrintLast Go.Proofs.YtcgpemefmakjiaaW.PrintMore
attribute [local go_sem] max2_int min2_int max_two min_two max_three min_three max_four min_four   -- for this text's walks alone
set_option linter.unusedVariables false
set_option linter.unusedSimpArgs false
def dioramaref36_Same.f (k : Nat) (a0_0 : Int) (a0_1 : Int) (a0_2 : Int) (a0_3 : Int) (a0_4 : Int) (l0_5 : List Int) (a1_0 : Int) (a1_1 : Int) (a1_2 : Int) (a1_3 : Int) (a1_4 : Int) (l1_5 : List Int) : Option (Bool) := if a0_0 = a1_0 then (if a0_1 = a1_1 then (if a0_2 = a1_2 then (if a0_3 = a1_3 then (if a0_4 = a1_4 then ((dioramaref01_SameInts.f k l0_5 l1_5).bind fun t196 => (some t196)) else (some false)) else (some false)) else (some false)) else (some false)) else (some false)
set_option maxHeartbeats 8000000 in
set_option maxRecDepth 100000 in
theorem dioramaref36_Same.calls (k : Nat) (a0_0 : Int) (a0_1 : Int) (a0_2 : Int) (a0_3 : Int) (a0_4 : Int) (A0_5 : Option Addr) (c0_5 : Nat) (l0_5 : List Int) (a1_0 : Int) (a1_1 : Int) (a1_2 : Int) (a1_3 : Int) (a1_4 : Int) (A1_5 : Option Addr) (c1_5 : Nat) (l1_5 : List Int) (r : Bool) (w : World) (hr0_5 : Kd.C (Kd.int .i64) w A0_5 l0_5.length l0_5) (hc0_5 : l0_5.length ≤ c0_5) (hr1_5 : Kd.C (Kd.int .i64) w A1_5 l1_5.length l1_5) (hc1_5 : l1_5.length ≤ c1_5) (h : dioramaref36_Same.f k a0_0 a0_1 a0_2 a0_3 a0_4 l0_5 a1_0 a1_1 a1_2 a1_3 a1_4 l1_5 = some r) :
    Calls Try.prog 42 #[.agg #[.int .i64 a0_0, .int .i64 a0_1, .int .i64 a0_2, .int .i64 a0_3, .int .i64 a0_4, .slice A0_5 l0_5.length c0_5], .agg #[.int .i64 a1_0, .int .i64 a1_1, .int .i64 a1_2, .int .i64 a1_3, .int .i64 a1_4, .slice A1_5 l1_5.length c1_5]] w fun e w' => e = .returned (.bool r) ∧ Below w.heap.size w w' := by
  have hu76 := Try.underlying76; have HR0_5 := Aside0.mk hr0_5; have HC0_5 := Aside0.mk hc0_5; clear hr0_5 hc0_5; have HR1_5 := Aside0.mk hr1_5; have HC1_5 := Aside0.mk hc1_5; clear hr1_5 hc1_5; have HB := Aside0.mk (Below.refl w.heap.size w); have H : (if a0_0 = a1_0 then (if a0_1 = a1_1 then (if a0_2 = a1_2 then (if a0_3 = a1_3 then (if a0_4 = a1_4 then ((dioramaref01_SameInts.f k l0_5 l1_5).bind fun t196 => (some t196)) else (some false)) else (some false)) else (some false)) else (some false)) else (some false)) = some r := h; clear h
  by_cases c3 : a0_0 = a1_0
  · rw [if_pos c3] at H
    have c3b0 : (a0_0 == a1_0) = true := beq_iff_eq.mpr c3; have c3b1 : (a0_0 != a1_0) = false := bne_eq_false_iff_eq.mpr c3; clear c3
    by_cases c4 : a0_1 = a1_1
    · rw [if_pos c4] at H
      have c4b0 : (a0_1 == a1_1) = true := beq_iff_eq.mpr c4; have c4b1 : (a0_1 != a1_1) = false := bne_eq_false_iff_eq.mpr c4; clear c4
      by_cases c5 : a0_2 = a1_2
      · rw [if_pos c5] at H
        have c5b0 : (a0_2 == a1_2) = true := beq_iff_eq.mpr c5; have c5b1 : (a0_2 != a1_2) = false := bne_eq_false_iff_eq.mpr c5; clear c5
        by_cases c6 : a0_3 = a1_3
        · rw [if_pos c6] at H
          have c6b0 : (a0_3 == a1_3) = true := beq_iff_eq.mpr c6; have c6b1 : (a0_3 != a1_3) = false := bne_eq_false_iff_eq.mpr c6; clear c6
          by_cases c7 : a0_4 = a1_4
          · rw [if_pos c7] at H
            have c7b0 : (a0_4 == a1_4) = true := beq_iff_eq.mpr c7; have c7b1 : (a0_4 != a1_4) = false := bne_eq_false_iff_eq.mpr c7; clear c7; replace H := Option.bind_eq_some_iff.mp H; obtain ⟨t196, A80, H⟩ := H; replace H : (some t196) = some r := H; have A8 := Aside0.mk A80; clear A80; obtain rfl := Option.some.inj H
            go_enter Try.func42, Try.ntmps42
            go_wp2_with (first | ((with_reducible refine gate_dst (N := 2) rfl ?_); refine box_event ?hg (N := 2) ?hd (cs := #[.int .i64 a0_0, .int .i64 a0_1, .int .i64 a0_2, .int .i64 a0_3, .int .i64 a0_4, .slice A0_5 l0_5.length c0_5]) (t := 76) ?hr ?_; (case hd => rfl); (case hg => rfl); (case hr => first | (go_simp; done) | (go_simp; rfl)); intro gb194 hg w9 hbox hb; have n0_ := Aside0.mk (below_step (by repeat (first | (with_reducible first | exact HB.out | apply below_alloc | apply pw_below_drewN | apply below_drew1) | exact HB.out)) hb); have n1_ := Aside0.mk (hbox); have n2_ := Aside0.mk ((by rw [hg]; exact (below_size (by repeat (first | (with_reducible first | exact HB.out | apply below_alloc | apply pw_below_drewN | apply below_drew1) | exact HB.out))) : w.heap.size ≤ gb194)); have n3_ := Aside0.mk ((by rw [hg]; exact (below_size (by repeat (first | (with_reducible first | exact HB.out | apply below_alloc | apply pw_below_drewN | apply below_drew1) | exact HB.out))) : w.heap.size ≤ gb194)); clear HB; have HB := n0_; have BK194 := n1_; have GW194 := n2_; have GE194 := n3_; clear n0_ n1_ n2_ n3_; clear hb hbox hg) | ((with_reducible refine gate_dst (N := 3) rfl ?_); refine box_event ?hg (N := 3) ?hd (cs := #[.int .i64 a1_0, .int .i64 a1_1, .int .i64 a1_2, .int .i64 a1_3, .int .i64 a1_4, .slice A1_5 l1_5.length c1_5]) (t := 76) ?hr ?_; (case hd => rfl); (case hg => rfl); (case hr => first | (go_simp; done) | (go_simp; rfl)); intro gb195 hg w10 hbox hb; have n0_ := Aside0.mk (blk_below (g := gb194) (o := .cells #[.int .i64 a0_0, .int .i64 a0_1, .int .i64 a0_2, .int .i64 a0_3, .int .i64 a0_4, .slice A0_5 l0_5.length c0_5] 76 (0, 0)) (by (with_reducible repeat (first | refine blk_drewN ?_ _ | refine blk_drew ?_ | refine blk_alloc ?_ _)); exact BK194.out) hb); have n1_ := Aside0.mk (below_step (by repeat (first | (with_reducible first | exact HB.out | apply below_alloc | apply pw_below_drewN | apply below_drew1 | refine below_set ?_ GE194.out) | exact HB.out)) hb); have n2_ := Aside0.mk (hbox); have n3_ := Aside0.mk ((by rw [hg]; exact (below_size (by repeat (first | (with_reducible first | exact HB.out | apply below_alloc | apply pw_below_drewN | apply below_drew1 | refine below_set ?_ GE194.out) | exact HB.out))) : w.heap.size ≤ gb195)); have n4_ := Aside0.mk ((by rw [hg]; exact (below_size (by repeat (first | (with_reducible first | exact HB.out | apply below_alloc | apply pw_below_drewN | apply below_drew1 | refine below_set ?_ GE194.out) | exact HB.out))) : w.heap.size ≤ gb195)); have n5_ := Aside0.mk ((by rw [hg]; exact Nat.ne_of_lt (blk_lt (g := gb194) (o := .cells #[.int .i64 a0_0, .int .i64 a0_1, .int .i64 a0_2, .int .i64 a0_3, .int .i64 a0_4, .slice A0_5 l0_5.length c0_5] 76 (0, 0)) (by (with_reducible repeat (first | refine blk_drewN ?_ _ | refine blk_drew ?_ | refine blk_alloc ?_ _)); exact BK194.out)) : gb194 ≠ gb195)); have n6_ := Aside0.mk ((by rw [hg]; exact Nat.ne_of_gt (blk_lt (g := gb194) (o := .cells #[.int .i64 a0_0, .int .i64 a0_1, .int .i64 a0_2, .int .i64 a0_3, .int .i64 a0_4, .slice A0_5 l0_5.length c0_5] 76 (0, 0)) (by (with_reducible repeat (first | refine blk_drewN ?_ _ | refine blk_drew ?_ | refine blk_alloc ?_ _)); exact BK194.out)) : gb195 ≠ gb194)); clear BK194; clear HB; have BK194 := n0_; have HB := n1_; have BK195 := n2_; have GW195 := n3_; have GE195 := n4_; have NB194_195 := n5_; have NB195_194 := n6_; clear n0_ n1_ n2_ n3_ n4_ n5_ n6_; clear hb hbox hg; have hnb11 := NB194_195.out; have hnc11 := NB195_194.out; have hcz12_0 : w10.cell? ⟨gb194, 0, none⟩ = some (.int .i64 a0_0) := (blk_cell BK194.out 0).trans rfl; have hcz12_1 : w10.cell? ⟨gb194, 1, none⟩ = some (.int .i64 a0_1) := (blk_cell BK194.out 1).trans rfl; have hcz12_2 : w10.cell? ⟨gb194, 2, none⟩ = some (.int .i64 a0_2) := (blk_cell BK194.out 2).trans rfl; have hcz12_3 : w10.cell? ⟨gb194, 3, none⟩ = some (.int .i64 a0_3) := (blk_cell BK194.out 3).trans rfl; have hcz12_4 : w10.cell? ⟨gb194, 4, none⟩ = some (.int .i64 a0_4) := (blk_cell BK194.out 4).trans rfl; have hcz12_5 : w10.cell? ⟨gb194, 5, none⟩ = some (.slice A0_5 l0_5.length c0_5) := (blk_cell BK194.out 5).trans rfl; have hfz12_0 := blk_frozen BK194.out 0; have hfz12_1 := blk_frozen BK194.out 1; have hfz12_2 := blk_frozen BK194.out 2; have hfz12_3 := blk_frozen BK194.out 3; have hfz12_4 := blk_frozen BK194.out 4; have hfz12_5 := blk_frozen BK194.out 5; have hcz13_0 : w10.cell? ⟨gb195, 0, none⟩ = some (.int .i64 a1_0) := (blk_cell BK195.out 0).trans rfl; have hcz13_1 : w10.cell? ⟨gb195, 1, none⟩ = some (.int .i64 a1_1) := (blk_cell BK195.out 1).trans rfl; have hcz13_2 : w10.cell? ⟨gb195, 2, none⟩ = some (.int .i64 a1_2) := (blk_cell BK195.out 2).trans rfl; have hcz13_3 : w10.cell? ⟨gb195, 3, none⟩ = some (.int .i64 a1_3) := (blk_cell BK195.out 3).trans rfl; have hcz13_4 : w10.cell? ⟨gb195, 4, none⟩ = some (.int .i64 a1_4) := (blk_cell BK195.out 4).trans rfl; have hcz13_5 : w10.cell? ⟨gb195, 5, none⟩ = some (.slice A1_5 l1_5.length c1_5) := (blk_cell BK195.out 5).trans rfl; have hfz13_0 := blk_frozen BK195.out 0; have hfz13_1 := blk_frozen BK195.out 1; have hfz13_2 := blk_frozen BK195.out 2; have hfz13_3 := blk_frozen BK195.out 3; have hfz13_4 := blk_frozen BK195.out 4; have hfz13_5 := blk_frozen BK195.out 5) | (go_at_call 31; (with_reducible refine (dioramaref01_SameInts.calls k _ _ l0_5 _ _ l1_5 t196 _ ?side1 ?side2 ?side3 ?side4 A8.out).mono ?_); (case side1 => repeat (first | exact (Kd.C_below HR0_5.out HB.out) | (with_reducible refine Kd.C_alloc ?_ _) | (with_reducible refine Kd.C_drewN ?_ _) | (with_reducible refine Kd.C_drew ?_))); (case side2 => exact HC0_5.out); (case side3 => repeat (first | exact (Kd.C_below HR1_5.out HB.out) | (with_reducible refine Kd.C_alloc ?_ _) | (with_reducible refine Kd.C_drewN ?_ _) | (with_reducible refine Kd.C_drew ?_))); (case side4 => exact HC1_5.out); rintro e w' ⟨rfl, ⟨nd, rfl⟩⟩))
            go_ret; exact ⟨by first | rfl | (simp [errW_none, errW_some] <;> rfl) | (simp [*, errW_none, errW_some] <;> rfl), by repeat (first | (with_reducible first | exact HB.out | apply below_alloc | apply pw_below_drewN | apply below_drew1 | refine below_set ?_ GE194.out | refine below_set ?_ GE195.out) | exact HB.out)⟩
          · rw [if_neg c7] at H
            have c7b0 : (a0_4 == a1_4) = false := beq_eq_false_iff_ne.mpr c7; have c7b1 : (a0_4 != a1_4) = true := bne_iff_ne.mpr c7; obtain rfl := Option.some.inj H
            go_enter Try.func42, Try.ntmps42
            go_wp2_with (first | ((with_reducible refine gate_dst (N := 2) rfl ?_); refine box_event ?hg (N := 2) ?hd (cs := #[.int .i64 a0_0, .int .i64 a0_1, .int .i64 a0_2, .int .i64 a0_3, .int .i64 a0_4, .slice A0_5 l0_5.length c0_5]) (t := 76) ?hr ?_; (case hd => rfl); (case hg => rfl); (case hr => first | (go_simp; done) | (go_simp; rfl)); intro gb194 hg w14 hbox hb; have n0_ := Aside0.mk (below_step (by repeat (first | (with_reducible first | exact HB.out | apply below_alloc | apply pw_below_drewN | apply below_drew1) | exact HB.out)) hb); have n1_ := Aside0.mk (hbox); have n2_ := Aside0.mk ((by rw [hg]; exact (below_size (by repeat (first | (with_reducible first | exact HB.out | apply below_alloc | apply pw_below_drewN | apply below_drew1) | exact HB.out))) : w.heap.size ≤ gb194)); have n3_ := Aside0.mk ((by rw [hg]; exact (below_size (by repeat (first | (with_reducible first | exact HB.out | apply below_alloc | apply pw_below_drewN | apply below_drew1) | exact HB.out))) : w.heap.size ≤ gb194)); clear HB; have HB := n0_; have BK194 := n1_; have GW194 := n2_; have GE194 := n3_; clear n0_ n1_ n2_ n3_; clear hb hbox hg) | ((with_reducible refine gate_dst (N := 3) rfl ?_); refine box_event ?hg (N := 3) ?hd (cs := #[.int .i64 a1_0, .int .i64 a1_1, .int .i64 a1_2, .int .i64 a1_3, .int .i64 a1_4, .slice A1_5 l1_5.length c1_5]) (t := 76) ?hr ?_; (case hd => rfl); (case hg => rfl); (case hr => first | (go_simp; done) | (go_simp; rfl)); intro gb195 hg w15 hbox hb; have n0_ := Aside0.mk (blk_below (g := gb194) (o := .cells #[.int .i64 a0_0, .int .i64 a0_1, .int .i64 a0_2, .int .i64 a0_3, .int .i64 a0_4, .slice A0_5 l0_5.length c0_5] 76 (0, 0)) (by (with_reducible repeat (first | refine blk_drewN ?_ _ | refine blk_drew ?_ | refine blk_alloc ?_ _)); exact BK194.out) hb); have n1_ := Aside0.mk (below_step (by repeat (first | (with_reducible first | exact HB.out | apply below_alloc | apply pw_below_drewN | apply below_drew1 | refine below_set ?_ GE194.out) | exact HB.out)) hb); have n2_ := Aside0.mk (hbox); have n3_ := Aside0.mk ((by rw [hg]; exact (below_size (by repeat (first | (with_reducible first | exact HB.out | apply below_alloc | apply pw_below_drewN | apply below_drew1 | refine below_set ?_ GE194.out) | exact HB.out))) : w.heap.size ≤ gb195)); have n4_ := Aside0.mk ((by rw [hg]; exact (below_size (by repeat (first | (with_reducible first | exact HB.out | apply below_alloc | apply pw_below_drewN | apply below_drew1 | refine below_set ?_ GE194.out) | exact HB.out))) : w.heap.size ≤ gb195)); have n5_ := Aside0.mk ((by rw [hg]; exact Nat.ne_of_lt (blk_lt (g := gb194) (o := .cells #[.int .i64 a0_0, .int .i64 a0_1, .int .i64 a0_2, .int .i64 a0_3, .int .i64 a0_4, .slice A0_5 l0_5.length c0_5] 76 (0, 0)) (by (with_reducible repeat (first | refine blk_drewN ?_ _ | refine blk_drew ?_ | refine blk_alloc ?_ _)); exact BK194.out)) : gb194 ≠ gb195)); have n6_ := Aside0.mk ((by rw [hg]; exact Nat.ne_of_gt (blk_lt (g := gb194) (o := .cells #[.int .i64 a0_0, .int .i64 a0_1, .int .i64 a0_2, .int .i64 a0_3, .int .i64 a0_4, .slice A0_5 l0_5.length c0_5] 76 (0, 0)) (by (with_reducible repeat (first | refine blk_drewN ?_ _ | refine blk_drew ?_ | refine blk_alloc ?_ _)); exact BK194.out)) : gb195 ≠ gb194)); clear BK194; clear HB; have BK194 := n0_; have HB := n1_; have BK195 := n2_; have GW195 := n3_; have GE195 := n4_; have NB194_195 := n5_; have NB195_194 := n6_; clear n0_ n1_ n2_ n3_ n4_ n5_ n6_; clear hb hbox hg; have hnb16 := NB194_195.out; have hnc16 := NB195_194.out; have hcz17_0 : w15.cell? ⟨gb194, 0, none⟩ = some (.int .i64 a0_0) := (blk_cell BK194.out 0).trans rfl; have hcz17_1 : w15.cell? ⟨gb194, 1, none⟩ = some (.int .i64 a0_1) := (blk_cell BK194.out 1).trans rfl; have hcz17_2 : w15.cell? ⟨gb194, 2, none⟩ = some (.int .i64 a0_2) := (blk_cell BK194.out 2).trans rfl; have hcz17_3 : w15.cell? ⟨gb194, 3, none⟩ = some (.int .i64 a0_3) := (blk_cell BK194.out 3).trans rfl; have hcz17_4 : w15.cell? ⟨gb194, 4, none⟩ = some (.int .i64 a0_4) := (blk_cell BK194.out 4).trans rfl; have hcz17_5 : w15.cell? ⟨gb194, 5, none⟩ = some (.slice A0_5 l0_5.length c0_5) := (blk_cell BK194.out 5).trans rfl; have hfz17_0 := blk_frozen BK194.out 0; have hfz17_1 := blk_frozen BK194.out 1; have hfz17_2 := blk_frozen BK194.out 2; have hfz17_3 := blk_frozen BK194.out 3; have hfz17_4 := blk_frozen BK194.out 4; have hfz17_5 := blk_frozen BK194.out 5; have hcz18_0 : w15.cell? ⟨gb195, 0, none⟩ = some (.int .i64 a1_0) := (blk_cell BK195.out 0).trans rfl; have hcz18_1 : w15.cell? ⟨gb195, 1, none⟩ = some (.int .i64 a1_1) := (blk_cell BK195.out 1).trans rfl; have hcz18_2 : w15.cell? ⟨gb195, 2, none⟩ = some (.int .i64 a1_2) := (blk_cell BK195.out 2).trans rfl; have hcz18_3 : w15.cell? ⟨gb195, 3, none⟩ = some (.int .i64 a1_3) := (blk_cell BK195.out 3).trans rfl; have hcz18_4 : w15.cell? ⟨gb195, 4, none⟩ = some (.int .i64 a1_4) := (blk_cell BK195.out 4).trans rfl; have hcz18_5 : w15.cell? ⟨gb195, 5, none⟩ = some (.slice A1_5 l1_5.length c1_5) := (blk_cell BK195.out 5).trans rfl; have hfz18_0 := blk_frozen BK195.out 0; have hfz18_1 := blk_frozen BK195.out 1; have hfz18_2 := blk_frozen BK195.out 2; have hfz18_3 := blk_frozen BK195.out 3; have hfz18_4 := blk_frozen BK195.out 4; have hfz18_5 := blk_frozen BK195.out 5))
            go_ret; exact ⟨by first | rfl | (simp [errW_none, errW_some] <;> rfl) | (simp [*, errW_none, errW_some] <;> rfl), by repeat (first | (with_reducible first | exact HB.out | apply below_alloc | apply pw_below_drewN | apply below_drew1 | refine below_set ?_ GE194.out | refine below_set ?_ GE195.out) | exact HB.out)⟩
        · rw [if_neg c6] at H
          have c6b0 : (a0_3 == a1_3) = false := beq_eq_false_iff_ne.mpr c6; have c6b1 : (a0_3 != a1_3) = true := bne_iff_ne.mpr c6; obtain rfl := Option.some.inj H
          go_enter Try.func42, Try.ntmps42
          go_wp2_with (first | ((with_reducible refine gate_dst (N := 2) rfl ?_); refine box_event ?hg (N := 2) ?hd (cs := #[.int .i64 a0_0, .int .i64 a0_1, .int .i64 a0_2, .int .i64 a0_3, .int .i64 a0_4, .slice A0_5 l0_5.length c0_5]) (t := 76) ?hr ?_; (case hd => rfl); (case hg => rfl); (case hr => first | (go_simp; done) | (go_simp; rfl)); intro gb194 hg w19 hbox hb; have n0_ := Aside0.mk (below_step (by repeat (first | (with_reducible first | exact HB.out | apply below_alloc | apply pw_below_drewN | apply below_drew1) | exact HB.out)) hb); have n1_ := Aside0.mk (hbox); have n2_ := Aside0.mk ((by rw [hg]; exact (below_size (by repeat (first | (with_reducible first | exact HB.out | apply below_alloc | apply pw_below_drewN | apply below_drew1) | exact HB.out))) : w.heap.size ≤ gb194)); have n3_ := Aside0.mk ((by rw [hg]; exact (below_size (by repeat (first | (with_reducible first | exact HB.out | apply below_alloc | apply pw_below_drewN | apply below_drew1) | exact HB.out))) : w.heap.size ≤ gb194)); clear HB; have HB := n0_; have BK194 := n1_; have GW194 := n2_; have GE194 := n3_; clear n0_ n1_ n2_ n3_; clear hb hbox hg) | ((with_reducible refine gate_dst (N := 3) rfl ?_); refine box_event ?hg (N := 3) ?hd (cs := #[.int .i64 a1_0, .int .i64 a1_1, .int .i64 a1_2, .int .i64 a1_3, .int .i64 a1_4, .slice A1_5 l1_5.length c1_5]) (t := 76) ?hr ?_; (case hd => rfl); (case hg => rfl); (case hr => first | (go_simp; done) | (go_simp; rfl)); intro gb195 hg w20 hbox hb; have n0_ := Aside0.mk (blk_below (g := gb194) (o := .cells #[.int .i64 a0_0, .int .i64 a0_1, .int .i64 a0_2, .int .i64 a0_3, .int .i64 a0_4, .slice A0_5 l0_5.length c0_5] 76 (0, 0)) (by (with_reducible repeat (first | refine blk_drewN ?_ _ | refine blk_drew ?_ | refine blk_alloc ?_ _)); exact BK194.out) hb); have n1_ := Aside0.mk (below_step (by repeat (first | (with_reducible first | exact HB.out | apply below_alloc | apply pw_below_drewN | apply below_drew1 | refine below_set ?_ GE194.out) | exact HB.out)) hb); have n2_ := Aside0.mk (hbox); have n3_ := Aside0.mk ((by rw [hg]; exact (below_size (by repeat (first | (with_reducible first | exact HB.out | apply below_alloc | apply pw_below_drewN | apply below_drew1 | refine below_set ?_ GE194.out) | exact HB.out))) : w.heap.size ≤ gb195)); have n4_ := Aside0.mk ((by rw [hg]; exact (below_size (by repeat (first | (with_reducible first | exact HB.out | apply below_alloc | apply pw_below_drewN | apply below_drew1 | refine below_set ?_ GE194.out) | exact HB.out))) : w.heap.size ≤ gb195)); have n5_ := Aside0.mk ((by rw [hg]; exact Nat.ne_of_lt (blk_lt (g := gb194) (o := .cells #[.int .i64 a0_0, .int .i64 a0_1, .int .i64 a0_2, .int .i64 a0_3, .int .i64 a0_4, .slice A0_5 l0_5.length c0_5] 76 (0, 0)) (by (with_reducible repeat (first | refine blk_drewN ?_ _ | refine blk_drew ?_ | refine blk_alloc ?_ _)); exact BK194.out)) : gb194 ≠ gb195)); have n6_ := Aside0.mk ((by rw [hg]; exact Nat.ne_of_gt (blk_lt (g := gb194) (o := .cells #[.int .i64 a0_0, .int .i64 a0_1, .int .i64 a0_2, .int .i64 a0_3, .int .i64 a0_4, .slice A0_5 l0_5.length c0_5] 76 (0, 0)) (by (with_reducible repeat (first | refine blk_drewN ?_ _ | refine blk_drew ?_ | refine blk_alloc ?_ _)); exact BK194.out)) : gb195 ≠ gb194)); clear BK194; clear HB; have BK194 := n0_; have HB := n1_; have BK195 := n2_; have GW195 := n3_; have GE195 := n4_; have NB194_195 := n5_; have NB195_194 := n6_; clear n0_ n1_ n2_ n3_ n4_ n5_ n6_; clear hb hbox hg; have hnb21 := NB194_195.out; have hnc21 := NB195_194.out; have hcz22_0 : w20.cell? ⟨gb194, 0, none⟩ = some (.int .i64 a0_0) := (blk_cell BK194.out 0).trans rfl; have hcz22_1 : w20.cell? ⟨gb194, 1, none⟩ = some (.int .i64 a0_1) := (blk_cell BK194.out 1).trans rfl; have hcz22_2 : w20.cell? ⟨gb194, 2, none⟩ = some (.int .i64 a0_2) := (blk_cell BK194.out 2).trans rfl; have hcz22_3 : w20.cell? ⟨gb194, 3, none⟩ = some (.int .i64 a0_3) := (blk_cell BK194.out 3).trans rfl; have hcz22_4 : w20.cell? ⟨gb194, 4, none⟩ = some (.int .i64 a0_4) := (blk_cell BK194.out 4).trans rfl; have hcz22_5 : w20.cell? ⟨gb194, 5, none⟩ = some (.slice A0_5 l0_5.length c0_5) := (blk_cell BK194.out 5).trans rfl; have hfz22_0 := blk_frozen BK194.out 0; have hfz22_1 := blk_frozen BK194.out 1; have hfz22_2 := blk_frozen BK194.out 2; have hfz22_3 := blk_frozen BK194.out 3; have hfz22_4 := blk_frozen BK194.out 4; have hfz22_5 := blk_frozen BK194.out 5; have hcz23_0 : w20.cell? ⟨gb195, 0, none⟩ = some (.int .i64 a1_0) := (blk_cell BK195.out 0).trans rfl; have hcz23_1 : w20.cell? ⟨gb195, 1, none⟩ = some (.int .i64 a1_1) := (blk_cell BK195.out 1).trans rfl; have hcz23_2 : w20.cell? ⟨gb195, 2, none⟩ = some (.int .i64 a1_2) := (blk_cell BK195.out 2).trans rfl; have hcz23_3 : w20.cell? ⟨gb195, 3, none⟩ = some (.int .i64 a1_3) := (blk_cell BK195.out 3).trans rfl; have hcz23_4 : w20.cell? ⟨gb195, 4, none⟩ = some (.int .i64 a1_4) := (blk_cell BK195.out 4).trans rfl; have hcz23_5 : w20.cell? ⟨gb195, 5, none⟩ = some (.slice A1_5 l1_5.length c1_5) := (blk_cell BK195.out 5).trans rfl; have hfz23_0 := blk_frozen BK195.out 0; have hfz23_1 := blk_frozen BK195.out 1; have hfz23_2 := blk_frozen BK195.out 2; have hfz23_3 := blk_frozen BK195.out 3; have hfz23_4 := blk_frozen BK195.out 4; have hfz23_5 := blk_frozen BK195.out 5))
          go_ret; exact ⟨by first | rfl | (simp [errW_none, errW_some] <;> rfl) | (simp [*, errW_none, errW_some] <;> rfl), by repeat (first | (with_reducible first | exact HB.out | apply below_alloc | apply pw_below_drewN | apply below_drew1 | refine below_set ?_ GE194.out | refine below_set ?_ GE195.out) | exact HB.out)⟩
      · rw [if_neg c5] at H
        have c5b0 : (a0_2 == a1_2) = false := beq_eq_false_iff_ne.mpr c5; have c5b1 : (a0_2 != a1_2) = true := bne_iff_ne.mpr c5; obtain rfl := Option.some.inj H
        go_enter Try.func42, Try.ntmps42
        go_wp2_with (first | ((with_reducible refine gate_dst (N := 2) rfl ?_); refine box_event ?hg (N := 2) ?hd (cs := #[.int .i64 a0_0, .int .i64 a0_1, .int .i64 a0_2, .int .i64 a0_3, .int .i64 a0_4, .slice A0_5 l0_5.length c0_5]) (t := 76) ?hr ?_; (case hd => rfl); (case hg => rfl); (case hr => first | (go_simp; done) | (go_simp; rfl)); intro gb194 hg w24 hbox hb; have n0_ := Aside0.mk (below_step (by repeat (first | (with_reducible first | exact HB.out | apply below_alloc | apply pw_below_drewN | apply below_drew1) | exact HB.out)) hb); have n1_ := Aside0.mk (hbox); have n2_ := Aside0.mk ((by rw [hg]; exact (below_size (by repeat (first | (with_reducible first | exact HB.out | apply below_alloc | apply pw_below_drewN | apply below_drew1) | exact HB.out))) : w.heap.size ≤ gb194)); have n3_ := Aside0.mk ((by rw [hg]; exact (below_size (by repeat (first | (with_reducible first | exact HB.out | apply below_alloc | apply pw_below_drewN | apply below_drew1) | exact HB.out))) : w.heap.size ≤ gb194)); clear HB; have HB := n0_; have BK194 := n1_; have GW194 := n2_; have GE194 := n3_; clear n0_ n1_ n2_ n3_; clear hb hbox hg) | ((with_reducible refine gate_dst (N := 3) rfl ?_); refine box_event ?hg (N := 3) ?hd (cs := #[.int .i64 a1_0, .int .i64 a1_1, .int .i64 a1_2, .int .i64 a1_3, .int .i64 a1_4, .slice A1_5 l1_5.length c1_5]) (t := 76) ?hr ?_; (case hd => rfl); (case hg => rfl); (case hr => first | (go_simp; done) | (go_simp; rfl)); intro gb195 hg w25 hbox hb; have n0_ := Aside0.mk (blk_below (g := gb194) (o := .cells #[.int .i64 a0_0, .int .i64 a0_1, .int .i64 a0_2, .int .i64 a0_3, .int .i64 a0_4, .slice A0_5 l0_5.length c0_5] 76 (0, 0)) (by (with_reducible repeat (first | refine blk_drewN ?_ _ | refine blk_drew ?_ | refine blk_alloc ?_ _)); exact BK194.out) hb); have n1_ := Aside0.mk (below_step (by repeat (first | (with_reducible first | exact HB.out | apply below_alloc | apply pw_below_drewN | apply below_drew1 | refine below_set ?_ GE194.out) | exact HB.out)) hb); have n2_ := Aside0.mk (hbox); have n3_ := Aside0.mk ((by rw [hg]; exact (below_size (by repeat (first | (with_reducible first | exact HB.out | apply below_alloc | apply pw_below_drewN | apply below_drew1 | refine below_set ?_ GE194.out) | exact HB.out))) : w.heap.size ≤ gb195)); have n4_ := Aside0.mk ((by rw [hg]; exact (below_size (by repeat (first | (with_reducible first | exact HB.out | apply below_alloc | apply pw_below_drewN | apply below_drew1 | refine below_set ?_ GE194.out) | exact HB.out))) : w.heap.size ≤ gb195)); have n5_ := Aside0.mk ((by rw [hg]; exact Nat.ne_of_lt (blk_lt (g := gb194) (o := .cells #[.int .i64 a0_0, .int .i64 a0_1, .int .i64 a0_2, .int .i64 a0_3, .int .i64 a0_4, .slice A0_5 l0_5.length c0_5] 76 (0, 0)) (by (with_reducible repeat (first | refine blk_drewN ?_ _ | refine blk_drew ?_ | refine blk_alloc ?_ _)); exact BK194.out)) : gb194 ≠ gb195)); have n6_ := Aside0.mk ((by rw [hg]; exact Nat.ne_of_gt (blk_lt (g := gb194) (o := .cells #[.int .i64 a0_0, .int .i64 a0_1, .int .i64 a0_2, .int .i64 a0_3, .int .i64 a0_4, .slice A0_5 l0_5.length c0_5] 76 (0, 0)) (by (with_reducible repeat (first | refine blk_drewN ?_ _ | refine blk_drew ?_ | refine blk_alloc ?_ _)); exact BK194.out)) : gb195 ≠ gb194)); clear BK194; clear HB; have BK194 := n0_; have HB := n1_; have BK195 := n2_; have GW195 := n3_; have GE195 := n4_; have NB194_195 := n5_; have NB195_194 := n6_; clear n0_ n1_ n2_ n3_ n4_ n5_ n6_; clear hb hbox hg; have hnb26 := NB194_195.out; have hnc26 := NB195_194.out; have hcz27_0 : w25.cell? ⟨gb194, 0, none⟩ = some (.int .i64 a0_0) := (blk_cell BK194.out 0).trans rfl; have hcz27_1 : w25.cell? ⟨gb194, 1, none⟩ = some (.int .i64 a0_1) := (blk_cell BK194.out 1).trans rfl; have hcz27_2 : w25.cell? ⟨gb194, 2, none⟩ = some (.int .i64 a0_2) := (blk_cell BK194.out 2).trans rfl; have hcz27_3 : w25.cell? ⟨gb194, 3, none⟩ = some (.int .i64 a0_3) := (blk_cell BK194.out 3).trans rfl; have hcz27_4 : w25.cell? ⟨gb194, 4, none⟩ = some (.int .i64 a0_4) := (blk_cell BK194.out 4).trans rfl; have hcz27_5 : w25.cell? ⟨gb194, 5, none⟩ = some (.slice A0_5 l0_5.length c0_5) := (blk_cell BK194.out 5).trans rfl; have hfz27_0 := blk_frozen BK194.out 0; have hfz27_1 := blk_frozen BK194.out 1; have hfz27_2 := blk_frozen BK194.out 2; have hfz27_3 := blk_frozen BK194.out 3; have hfz27_4 := blk_frozen BK194.out 4; have hfz27_5 := blk_frozen BK194.out 5; have hcz28_0 : w25.cell? ⟨gb195, 0, none⟩ = some (.int .i64 a1_0) := (blk_cell BK195.out 0).trans rfl; have hcz28_1 : w25.cell? ⟨gb195, 1, none⟩ = some (.int .i64 a1_1) := (blk_cell BK195.out 1).trans rfl; have hcz28_2 : w25.cell? ⟨gb195, 2, none⟩ = some (.int .i64 a1_2) := (blk_cell BK195.out 2).trans rfl; have hcz28_3 : w25.cell? ⟨gb195, 3, none⟩ = some (.int .i64 a1_3) := (blk_cell BK195.out 3).trans rfl; have hcz28_4 : w25.cell? ⟨gb195, 4, none⟩ = some (.int .i64 a1_4) := (blk_cell BK195.out 4).trans rfl; have hcz28_5 : w25.cell? ⟨gb195, 5, none⟩ = some (.slice A1_5 l1_5.length c1_5) := (blk_cell BK195.out 5).trans rfl; have hfz28_0 := blk_frozen BK195.out 0; have hfz28_1 := blk_frozen BK195.out 1; have hfz28_2 := blk_frozen BK195.out 2; have hfz28_3 := blk_frozen BK195.out 3; have hfz28_4 := blk_frozen BK195.out 4; have hfz28_5 := blk_frozen BK195.out 5))
        go_ret; exact ⟨by first | rfl | (simp [errW_none, errW_some] <;> rfl) | (simp [*, errW_none, errW_some] <;> rfl), by repeat (first | (with_reducible first | exact HB.out | apply below_alloc | apply pw_below_drewN | apply below_drew1 | refine below_set ?_ GE194.out | refine below_set ?_ GE195.out) | exact HB.out)⟩
    · rw [if_neg c4] at H
      have c4b0 : (a0_1 == a1_1) = false := beq_eq_false_iff_ne.mpr c4; have c4b1 : (a0_1 != a1_1) = true := bne_iff_ne.mpr c4; obtain rfl := Option.some.inj H
      go_enter Try.func42, Try.ntmps42
      go_wp2_with (first | ((with_reducible refine gate_dst (N := 2) rfl ?_); refine box_event ?hg (N := 2) ?hd (cs := #[.int .i64 a0_0, .int .i64 a0_1, .int .i64 a0_2, .int .i64 a0_3, .int .i64 a0_4, .slice A0_5 l0_5.length c0_5]) (t := 76) ?hr ?_; (case hd => rfl); (case hg => rfl); (case hr => first | (go_simp; done) | (go_simp; rfl)); intro gb194 hg w29 hbox hb; have n0_ := Aside0.mk (below_step (by repeat (first | (with_reducible first | exact HB.out | apply below_alloc | apply pw_below_drewN | apply below_drew1) | exact HB.out)) hb); have n1_ := Aside0.mk (hbox); have n2_ := Aside0.mk ((by rw [hg]; exact (below_size (by repeat (first | (with_reducible first | exact HB.out | apply below_alloc | apply pw_below_drewN | apply below_drew1) | exact HB.out))) : w.heap.size ≤ gb194)); have n3_ := Aside0.mk ((by rw [hg]; exact (below_size (by repeat (first | (with_reducible first | exact HB.out | apply below_alloc | apply pw_below_drewN | apply below_drew1) | exact HB.out))) : w.heap.size ≤ gb194)); clear HB; have HB := n0_; have BK194 := n1_; have GW194 := n2_; have GE194 := n3_; clear n0_ n1_ n2_ n3_; clear hb hbox hg) | ((with_reducible refine gate_dst (N := 3) rfl ?_); refine box_event ?hg (N := 3) ?hd (cs := #[.int .i64 a1_0, .int .i64 a1_1, .int .i64 a1_2, .int .i64 a1_3, .int .i64 a1_4, .slice A1_5 l1_5.length c1_5]) (t := 76) ?hr ?_; (case hd => rfl); (case hg => rfl); (case hr => first | (go_simp; done) | (go_simp; rfl)); intro gb195 hg w30 hbox hb; have n0_ := Aside0.mk (blk_below (g := gb194) (o := .cells #[.int .i64 a0_0, .int .i64 a0_1, .int .i64 a0_2, .int .i64 a0_3, .int .i64 a0_4, .slice A0_5 l0_5.length c0_5] 76 (0, 0)) (by (with_reducible repeat (first | refine blk_drewN ?_ _ | refine blk_drew ?_ | refine blk_alloc ?_ _)); exact BK194.out) hb); have n1_ := Aside0.mk (below_step (by repeat (first | (with_reducible first | exact HB.out | apply below_alloc | apply pw_below_drewN | apply below_drew1 | refine below_set ?_ GE194.out) | exact HB.out)) hb); have n2_ := Aside0.mk (hbox); have n3_ := Aside0.mk ((by rw [hg]; exact (below_size (by repeat (first | (with_reducible first | exact HB.out | apply below_alloc | apply pw_below_drewN | apply below_drew1 | refine below_set ?_ GE194.out) | exact HB.out))) : w.heap.size ≤ gb195)); have n4_ := Aside0.mk ((by rw [hg]; exact (below_size (by repeat (first | (with_reducible first | exact HB.out | apply below_alloc | apply pw_below_drewN | apply below_drew1 | refine below_set ?_ GE194.out) | exact HB.out))) : w.heap.size ≤ gb195)); have n5_ := Aside0.mk ((by rw [hg]; exact Nat.ne_of_lt (blk_lt (g := gb194) (o := .cells #[.int .i64 a0_0, .int .i64 a0_1, .int .i64 a0_2, .int .i64 a0_3, .int .i64 a0_4, .slice A0_5 l0_5.length c0_5] 76 (0, 0)) (by (with_reducible repeat (first | refine blk_drewN ?_ _ | refine blk_drew ?_ | refine blk_alloc ?_ _)); exact BK194.out)) : gb194 ≠ gb195)); have n6_ := Aside0.mk ((by rw [hg]; exact Nat.ne_of_gt (blk_lt (g := gb194) (o := .cells #[.int .i64 a0_0, .int .i64 a0_1, .int .i64 a0_2, .int .i64 a0_3, .int .i64 a0_4, .slice A0_5 l0_5.length c0_5] 76 (0, 0)) (by (with_reducible repeat (first | refine blk_drewN ?_ _ | refine blk_drew ?_ | refine blk_alloc ?_ _)); exact BK194.out)) : gb195 ≠ gb194)); clear BK194; clear HB; have BK194 := n0_; have HB := n1_; have BK195 := n2_; have GW195 := n3_; have GE195 := n4_; have NB194_195 := n5_; have NB195_194 := n6_; clear n0_ n1_ n2_ n3_ n4_ n5_ n6_; clear hb hbox hg; have hnb31 := NB194_195.out; have hnc31 := NB195_194.out; have hcz32_0 : w30.cell? ⟨gb194, 0, none⟩ = some (.int .i64 a0_0) := (blk_cell BK194.out 0).trans rfl; have hcz32_1 : w30.cell? ⟨gb194, 1, none⟩ = some (.int .i64 a0_1) := (blk_cell BK194.out 1).trans rfl; have hcz32_2 : w30.cell? ⟨gb194, 2, none⟩ = some (.int .i64 a0_2) := (blk_cell BK194.out 2).trans rfl; have hcz32_3 : w30.cell? ⟨gb194, 3, none⟩ = some (.int .i64 a0_3) := (blk_cell BK194.out 3).trans rfl; have hcz32_4 : w30.cell? ⟨gb194, 4, none⟩ = some (.int .i64 a0_4) := (blk_cell BK194.out 4).trans rfl; have hcz32_5 : w30.cell? ⟨gb194, 5, none⟩ = some (.slice A0_5 l0_5.length c0_5) := (blk_cell BK194.out 5).trans rfl; have hfz32_0 := blk_frozen BK194.out 0; have hfz32_1 := blk_frozen BK194.out 1; have hfz32_2 := blk_frozen BK194.out 2; have hfz32_3 := blk_frozen BK194.out 3; have hfz32_4 := blk_frozen BK194.out 4; have hfz32_5 := blk_frozen BK194.out 5; have hcz33_0 : w30.cell? ⟨gb195, 0, none⟩ = some (.int .i64 a1_0) := (blk_cell BK195.out 0).trans rfl; have hcz33_1 : w30.cell? ⟨gb195, 1, none⟩ = some (.int .i64 a1_1) := (blk_cell BK195.out 1).trans rfl; have hcz33_2 : w30.cell? ⟨gb195, 2, none⟩ = some (.int .i64 a1_2) := (blk_cell BK195.out 2).trans rfl; have hcz33_3 : w30.cell? ⟨gb195, 3, none⟩ = some (.int .i64 a1_3) := (blk_cell BK195.out 3).trans rfl; have hcz33_4 : w30.cell? ⟨gb195, 4, none⟩ = some (.int .i64 a1_4) := (blk_cell BK195.out 4).trans rfl; have hcz33_5 : w30.cell? ⟨gb195, 5, none⟩ = some (.slice A1_5 l1_5.length c1_5) := (blk_cell BK195.out 5).trans rfl; have hfz33_0 := blk_frozen BK195.out 0; have hfz33_1 := blk_frozen BK195.out 1; have hfz33_2 := blk_frozen BK195.out 2; have hfz33_3 := blk_frozen BK195.out 3; have hfz33_4 := blk_frozen BK195.out 4; have hfz33_5 := blk_frozen BK195.out 5))
      go_ret; exact ⟨by first | rfl | (simp [errW_none, errW_some] <;> rfl) | (simp [*, errW_none, errW_some] <;> rfl), by repeat (first | (with_reducible first | exact HB.out | apply below_alloc | apply pw_below_drewN | apply below_drew1 | refine below_set ?_ GE194.out | refine below_set ?_ GE195.out) | exact HB.out)⟩
  · rw [if_neg c3] at H
    have c3b0 : (a0_0 == a1_0) = false := beq_eq_false_iff_ne.mpr c3; have c3b1 : (a0_0 != a1_0) = true := bne_iff_ne.mpr c3; obtain rfl := Option.some.inj H
    go_enter Try.func42, Try.ntmps42
    go_wp2_with (first | ((with_reducible refine gate_dst (N := 2) rfl ?_); refine box_event ?hg (N := 2) ?hd (cs := #[.int .i64 a0_0, .int .i64 a0_1, .int .i64 a0_2, .int .i64 a0_3, .int .i64 a0_4, .slice A0_5 l0_5.length c0_5]) (t := 76) ?hr ?_; (case hd => rfl); (case hg => rfl); (case hr => first | (go_simp; done) | (go_simp; rfl)); intro gb194 hg w34 hbox hb; have n0_ := Aside0.mk (below_step (by repeat (first | (with_reducible first | exact HB.out | apply below_alloc | apply pw_below_drewN | apply below_drew1) | exact HB.out)) hb); have n1_ := Aside0.mk (hbox); have n2_ := Aside0.mk ((by rw [hg]; exact (below_size (by repeat (first | (with_reducible first | exact HB.out | apply below_alloc | apply pw_below_drewN | apply below_drew1) | exact HB.out))) : w.heap.size ≤ gb194)); have n3_ := Aside0.mk ((by rw [hg]; exact (below_size (by repeat (first | (with_reducible first | exact HB.out | apply below_alloc | apply pw_below_drewN | apply below_drew1) | exact HB.out))) : w.heap.size ≤ gb194)); clear HB; have HB := n0_; have BK194 := n1_; have GW194 := n2_; have GE194 := n3_; clear n0_ n1_ n2_ n3_; clear hb hbox hg) | ((with_reducible refine gate_dst (N := 3) rfl ?_); refine box_event ?hg (N := 3) ?hd (cs := #[.int .i64 a1_0, .int .i64 a1_1, .int .i64 a1_2, .int .i64 a1_3, .int .i64 a1_4, .slice A1_5 l1_5.length c1_5]) (t := 76) ?hr ?_; (case hd => rfl); (case hg => rfl); (case hr => first | (go_simp; done) | (go_simp; rfl)); intro gb195 hg w35 hbox hb; have n0_ := Aside0.mk (blk_below (g := gb194) (o := .cells #[.int .i64 a0_0, .int .i64 a0_1, .int .i64 a0_2, .int .i64 a0_3, .int .i64 a0_4, .slice A0_5 l0_5.length c0_5] 76 (0, 0)) (by (with_reducible repeat (first | refine blk_drewN ?_ _ | refine blk_drew ?_ | refine blk_alloc ?_ _)); exact BK194.out) hb); have n1_ := Aside0.mk (below_step (by repeat (first | (with_reducible first | exact HB.out | apply below_alloc | apply pw_below_drewN | apply below_drew1 | refine below_set ?_ GE194.out) | exact HB.out)) hb); have n2_ := Aside0.mk (hbox); have n3_ := Aside0.mk ((by rw [hg]; exact (below_size (by repeat (first | (with_reducible first | exact HB.out | apply below_alloc | apply pw_below_drewN | apply below_drew1 | refine below_set ?_ GE194.out) | exact HB.out))) : w.heap.size ≤ gb195)); have n4_ := Aside0.mk ((by rw [hg]; exact (below_size (by repeat (first | (with_reducible first | exact HB.out | apply below_alloc | apply pw_below_drewN | apply below_drew1 | refine below_set ?_ GE194.out) | exact HB.out))) : w.heap.size ≤ gb195)); have n5_ := Aside0.mk ((by rw [hg]; exact Nat.ne_of_lt (blk_lt (g := gb194) (o := .cells #[.int .i64 a0_0, .int .i64 a0_1, .int .i64 a0_2, .int .i64 a0_3, .int .i64 a0_4, .slice A0_5 l0_5.length c0_5] 76 (0, 0)) (by (with_reducible repeat (first | refine blk_drewN ?_ _ | refine blk_drew ?_ | refine blk_alloc ?_ _)); exact BK194.out)) : gb194 ≠ gb195)); have n6_ := Aside0.mk ((by rw [hg]; exact Nat.ne_of_gt (blk_lt (g := gb194) (o := .cells #[.int .i64 a0_0, .int .i64 a0_1, .int .i64 a0_2, .int .i64 a0_3, .int .i64 a0_4, .slice A0_5 l0_5.length c0_5] 76 (0, 0)) (by (with_reducible repeat (first | refine blk_drewN ?_ _ | refine blk_drew ?_ | refine blk_alloc ?_ _)); exact BK194.out)) : gb195 ≠ gb194)); clear BK194; clear HB; have BK194 := n0_; have HB := n1_; have BK195 := n2_; have GW195 := n3_; have GE195 := n4_; have NB194_195 := n5_; have NB195_194 := n6_; clear n0_ n1_ n2_ n3_ n4_ n5_ n6_; clear hb hbox hg; have hnb36 := NB194_195.out; have hnc36 := NB195_194.out; have hcz37_0 : w35.cell? ⟨gb194, 0, none⟩ = some (.int .i64 a0_0) := (blk_cell BK194.out 0).trans rfl; have hcz37_1 : w35.cell? ⟨gb194, 1, none⟩ = some (.int .i64 a0_1) := (blk_cell BK194.out 1).trans rfl; have hcz37_2 : w35.cell? ⟨gb194, 2, none⟩ = some (.int .i64 a0_2) := (blk_cell BK194.out 2).trans rfl; have hcz37_3 : w35.cell? ⟨gb194, 3, none⟩ = some (.int .i64 a0_3) := (blk_cell BK194.out 3).trans rfl; have hcz37_4 : w35.cell? ⟨gb194, 4, none⟩ = some (.int .i64 a0_4) := (blk_cell BK194.out 4).trans rfl; have hcz37_5 : w35.cell? ⟨gb194, 5, none⟩ = some (.slice A0_5 l0_5.length c0_5) := (blk_cell BK194.out 5).trans rfl; have hfz37_0 := blk_frozen BK194.out 0; have hfz37_1 := blk_frozen BK194.out 1; have hfz37_2 := blk_frozen BK194.out 2; have hfz37_3 := blk_frozen BK194.out 3; have hfz37_4 := blk_frozen BK194.out 4; have hfz37_5 := blk_frozen BK194.out 5; have hcz38_0 : w35.cell? ⟨gb195, 0, none⟩ = some (.int .i64 a1_0) := (blk_cell BK195.out 0).trans rfl; have hcz38_1 : w35.cell? ⟨gb195, 1, none⟩ = some (.int .i64 a1_1) := (blk_cell BK195.out 1).trans rfl; have hcz38_2 : w35.cell? ⟨gb195, 2, none⟩ = some (.int .i64 a1_2) := (blk_cell BK195.out 2).trans rfl; have hcz38_3 : w35.cell? ⟨gb195, 3, none⟩ = some (.int .i64 a1_3) := (blk_cell BK195.out 3).trans rfl; have hcz38_4 : w35.cell? ⟨gb195, 4, none⟩ = some (.int .i64 a1_4) := (blk_cell BK195.out 4).trans rfl; have hcz38_5 : w35.cell? ⟨gb195, 5, none⟩ = some (.slice A1_5 l1_5.length c1_5) := (blk_cell BK195.out 5).trans rfl; have hfz38_0 := blk_frozen BK195.out 0; have hfz38_1 := blk_frozen BK195.out 1; have hfz38_2 := blk_frozen BK195.out 2; have hfz38_3 := blk_frozen BK195.out 3; have hfz38_4 := blk_frozen BK195.out 4; have hfz38_5 := blk_frozen BK195.out 5))
    go_ret; exact ⟨by first | rfl | (simp [errW_none, errW_some] <;> rfl) | (simp [*, errW_none, errW_some] <;> rfl), by repeat (first | (with_reducible first | exact HB.out | apply below_alloc | apply pw_below_drewN | apply below_drew1 | refine below_set ?_ GE194.out | refine below_set ?_ GE195.out) | exact HB.out)⟩
end Go.Proofs.Ytcgpemefmakjiaa.PX
namespace Go.Proofs.Ytcgpemefmakjiaa.PX
open Go.RowKit Go.Proofs.YtcgpemefmakjiaaW.PrintWords Go.Proofs.YtcgpemefmakjiaaW.PrintLast Go.Proofs.YtcgpemefmakjiaaW.PrintMore
attribute [local go_sem] max2_int min2_int max_two min_two max_three min_three max_four min_four   -- for this text's walks alone
set_option linter.unusedVariables false
set_option linter.unusedSimpArgs false
def dioramaref36_SameAll.l0 : Nat → List (S76) → List (S76) → Int → Option (Bool)
  | 0, _, _, _ => none
  | k + 1, x0, x1, x5 => if x5 < (x0.length : Int) then (if 0 ≤ x5 then (if x5 < (x1.length : Int) then ((dioramaref36_Same.f k ((rd_T76 x0 x5).f0) ((rd_T76 x0 x5).f1) ((rd_T76 x0 x5).f2) ((rd_T76 x0 x5).f3) ((rd_T76 x0 x5).f4) ((rd_T76 x0 x5).f5) ((rd_T76 x1 x5).f0) ((rd_T76 x1 x5).f1) ((rd_T76 x1 x5).f2) ((rd_T76 x1 x5).f3) ((rd_T76 x1 x5).f4) ((rd_T76 x1 x5).f5)).bind fun t199 => (if t199 = true then (dioramaref36_SameAll.l0 k x0 x1 (wrap64 (x5 + 1))) else (some false))) else (none)) else (none)) else (some true)
def dioramaref36_SameAll.f (k : Nat) (l0 : List (S76)) (l1 : List (S76)) : Option (Bool) := if (l0.length : Int) = (l1.length : Int) then (dioramaref36_SameAll.l0 k l0 l1 0) else (some false)
def dioramaref36_SameAll.T6 : Bool × List (List Nat × List Nat) := (true, [([], []), ([], []), ([0, 1], [0, 1]), ([2], [2]), ([], []), ([], []), ([4, 5], [4, 5]), ([6], [6]), ([3, 7], [3, 7]), ([8], [8])])
def dioramaref36_SameAll.B6 : List Nat := [0, 0, 3, 7, 0, 0, 48, 112, 255, 511]
theorem dioramaref36_SameAll.tab6 : rtab .any (opsOf Try.f16 6) = dioramaref36_SameAll.T6 := by kernel_rfl
theorem dioramaref36_SameAll.bits6 : waitsOk dioramaref36_SameAll.T6.2 dioramaref36_SameAll.B6 = true := by kernel_rfl
set_option maxHeartbeats 8000000 in
set_option maxRecDepth 100000 in
theorem dioramaref36_SameAll.calls (k : Nat) (A0 : Option Addr) (c0 : Nat) (l0 : List (S76)) (A1 : Option Addr) (c1 : Nat) (l1 : List (S76)) (r : Bool) (w : World) (hr0 : Kd.C k76 w A0 l0.length l0) (hc0 : l0.length ≤ c0) (hr1 : Kd.C k76 w A1 l1.length l1) (hc1 : l1.length ≤ c1) (h : dioramaref36_SameAll.f k l0 l1 = some r) :
    Calls Try.prog 16 #[.slice A0 l0.length c0, .slice A1 l1.length c1] w fun e w' => e = .returned (.bool r) ∧ Below w.heap.size w w' := by
  have hu76 := Try.underlying76; have HR0 := Aside0.mk hr0; have HC0 := Aside0.mk hc0; clear hr0 hc0; have HR1 := Aside0.mk hr1; have HC1 := Aside0.mk hc1; clear hr1 hc1; have HB := Aside0.mk (Below.refl w.heap.size w); have H : (if (l0.length : Int) = (l1.length : Int) then (dioramaref36_SameAll.l0 k l0 l1 0) else (some false)) = some r := h; clear h
  by_cases c3 : (l0.length : Int) = (l1.length : Int)
  · rw [if_pos c3] at H
    have c3b0 : ((l0.length : Int) == (l1.length : Int)) = true := beq_iff_eq.mpr c3; have c3b1 : ((l0.length : Int) != (l1.length : Int)) = false := bne_eq_false_iff_eq.mpr c3
    have c3b2 : (l0.length == l1.length) = true := by first | simpa using c3 | (simp at c3 ⊢; omega)
    clear c3; have H' := Aside0.mk H; clear H
    go_enter Try.func16, Try.ntmps16
    go_wp2
    go_loopg [5] k (fun kq v5 w' => ∃ (x5_1 : Int), v5 = .int .i64 x5_1 ∧ Aside0 (dioramaref36_SameAll.l0 kq l0 l1 x5_1 = some r) ∧ Aside0 (kq ≤ k) ∧ Aside0 (Below w.heap.size w w'))
    case atStart => exact ⟨(0), (by first | rfl | (simp; done) | (simp [*]; done)), H', ⟨Nat.le_refl _⟩, ⟨by repeat (first | (with_reducible first | exact HB.out | apply below_alloc | apply pw_below_drewN | apply below_drew1) | exact HB.out)⟩⟩
    case round =>
      clear H'
      try clear c1
      try clear p2
      try clear c3
      try clear c3b0
      try clear c3b1
      try clear c3b2
      obtain ⟨x5_1, rfl, HA, HK1, HB⟩ := hrel
      cases gk with
      | zero => exact absurd HA.out (by simp [dioramaref36_SameAll.l0])
      | succ k1 =>
        have H := HA.out; clear HA; simp only [dioramaref36_SameAll.l0] at H
        by_cases c4 : x5_1 < (l0.length : Int)
        · rw [if_pos c4] at H
          have c4b0 : decide (x5_1 < (l0.length : Int)) = true := decide_eq_true c4; clear c4
          by_cases c5 : 0 ≤ x5_1
          · rw [if_pos c5] at H
            have c5b0 : decide (0 ≤ x5_1) = true := decide_eq_true c5; clear c5
            by_cases c6 : x5_1 < (l1.length : Int)
            · rw [if_pos c6] at H
              have c6b0 : decide (x5_1 < (l1.length : Int)) = true := decide_eq_true c6; clear c6; replace H := Option.bind_eq_some_iff.mp H; obtain ⟨t199, A70, H⟩ := H; replace H : (if t199 = true then (dioramaref36_SameAll.l0 k1 l0 l1 (wrap64 (x5_1 + 1))) else (some false)) = some r := H; have A7 := Aside0.mk A70; clear A70
              by_cases c8 : t199 = true
              · subst c8
                have H1 : (dioramaref36_SameAll.l0 k1 l0 l1 (wrap64 (x5_1 + 1))) = some r := by rw [if_pos rfl] at H; exact H
                clear H; have H := H1; clear H1; have H' := Aside0.mk H; clear H
                try go_wp2
                have n0_ := Aside0.mk (below_drew1 HB.out); clear HB; have HB := n0_; clear n0_; have p197 : 0 ≤ (x5_1 : Int) := of_decide_eq_true (by first | (with_reducible assumption) | assumption); have q197 : x5_1 < (l0.length : Int) := of_decide_eq_true (by first | (with_reducible assumption) | assumption); obtain ⟨ad197, A197_5, c197_5, e197, hx197_0, hx197_1, hx197_2, hx197_3, hx197_4, hx197_5, hl197_5, hi197_5⟩ := at_T76 HR0.out x5_1 p197 q197; have hw197_5 := hx197_5; have hw197_4 := hx197_4; have hw197_3 := hx197_3; have hw197_2 := hx197_2; have hw197_1 := hx197_1; have hw197_0 := hx197_0
                cases e197
                replace hx197_0 := (HB.out.cell (World.block_lt_of_cell? w _ hx197_0)).trans hx197_0; replace hx197_1 := (HB.out.cell (World.block_lt_of_cell? w _ hx197_1)).trans hx197_1; replace hx197_2 := (HB.out.cell (World.block_lt_of_cell? w _ hx197_2)).trans hx197_2; replace hx197_3 := (HB.out.cell (World.block_lt_of_cell? w _ hx197_3)).trans hx197_3; replace hx197_4 := (HB.out.cell (World.block_lt_of_cell? w _ hx197_4)).trans hx197_4; replace hx197_5 := (HB.out.cell (World.block_lt_of_cell? w _ hx197_5)).trans hx197_5; have HR197_5 := Aside0.mk hi197_5; have HC197_5 := Aside0.mk hl197_5; clear hi197_5 hl197_5; replace p197 := eq_true p197; replace q197 := eq_true q197; have p198 : 0 ≤ (x5_1 : Int) := of_decide_eq_true (by first | (with_reducible assumption) | assumption); have q198 : x5_1 < (l1.length : Int) := of_decide_eq_true (by first | (with_reducible assumption) | assumption); obtain ⟨ad198, A198_5, c198_5, e198, hx198_0, hx198_1, hx198_2, hx198_3, hx198_4, hx198_5, hl198_5, hi198_5⟩ := at_T76 HR1.out x5_1 p198 q198; have hw198_5 := hx198_5; have hw198_4 := hx198_4; have hw198_3 := hx198_3; have hw198_2 := hx198_2; have hw198_1 := hx198_1; have hw198_0 := hx198_0
                cases e198
                replace hx198_0 := (HB.out.cell (World.block_lt_of_cell? w _ hx198_0)).trans hx198_0; replace hx198_1 := (HB.out.cell (World.block_lt_of_cell? w _ hx198_1)).trans hx198_1; replace hx198_2 := (HB.out.cell (World.block_lt_of_cell? w _ hx198_2)).trans hx198_2; replace hx198_3 := (HB.out.cell (World.block_lt_of_cell? w _ hx198_3)).trans hx198_3; replace hx198_4 := (HB.out.cell (World.block_lt_of_cell? w _ hx198_4)).trans hx198_4; replace hx198_5 := (HB.out.cell (World.block_lt_of_cell? w _ hx198_5)).trans hx198_5; have HR198_5 := Aside0.mk hi198_5; have HC198_5 := Aside0.mk hl198_5; clear hi198_5 hl198_5; replace p198 := eq_true p198; replace q198 := eq_true q198; refine start_ (n := 10) (S := fun w' => w'.cell? (ad197.add ((x5_1).toNat * 6)) = some (.int .i64 ((rd_T76 l0 x5_1).f0)) ∧ w'.cell? ⟨(ad197.add ((x5_1).toNat * 6)).block, (ad197.add ((x5_1).toNat * 6)).off + 1, none⟩ = some (.int .i64 ((rd_T76 l0 x5_1).f1)) ∧ w'.cell? ⟨(ad197.add ((x5_1).toNat * 6)).block, (ad197.add ((x5_1).toNat * 6)).off + 2, none⟩ = some (.int .i64 ((rd_T76 l0 x5_1).f2)) ∧ w'.cell? ⟨(ad197.add ((x5_1).toNat * 6)).block, (ad197.add ((x5_1).toNat * 6)).off + 3, none⟩ = some (.int .i64 ((rd_T76 l0 x5_1).f3)) ∧ w'.cell? ⟨(ad197.add ((x5_1).toNat * 6)).block, (ad197.add ((x5_1).toNat * 6)).off + 4, none⟩ = some (.int .i64 ((rd_T76 l0 x5_1).f4)) ∧ w'.cell? ⟨(ad197.add ((x5_1).toNat * 6)).block, (ad197.add ((x5_1).toNat * 6)).off + 5, none⟩ = some (.slice A197_5 ((rd_T76 l0 x5_1).f5).length c197_5) ∧ w'.cell? (ad198.add ((x5_1).toNat * 6)) = some (.int .i64 ((rd_T76 l1 x5_1).f0)) ∧ w'.cell? ⟨(ad198.add ((x5_1).toNat * 6)).block, (ad198.add ((x5_1).toNat * 6)).off + 1, none⟩ = some (.int .i64 ((rd_T76 l1 x5_1).f1)) ∧ w'.cell? ⟨(ad198.add ((x5_1).toNat * 6)).block, (ad198.add ((x5_1).toNat * 6)).off + 2, none⟩ = some (.int .i64 ((rd_T76 l1 x5_1).f2)) ∧ w'.cell? ⟨(ad198.add ((x5_1).toNat * 6)).block, (ad198.add ((x5_1).toNat * 6)).off + 3, none⟩ = some (.int .i64 ((rd_T76 l1 x5_1).f3)) ∧ w'.cell? ⟨(ad198.add ((x5_1).toNat * 6)).block, (ad198.add ((x5_1).toNat * 6)).off + 4, none⟩ = some (.int .i64 ((rd_T76 l1 x5_1).f4)) ∧ w'.cell? ⟨(ad198.add ((x5_1).toNat * 6)).block, (ad198.add ((x5_1).toNat * 6)).off + 5, none⟩ = some (.slice A198_5 ((rd_T76 l1 x5_1).f5).length c198_5)) (ds := []) #[O_,O_,O_,O_,O_,O_,O_,O_,O_,O_] (by kernel_rfl) rfl rfl ⟨((HB.out.cell (World.block_lt_of_cell? w _ hw197_0)).trans hw197_0), ((HB.out.cell (World.block_lt_of_cell? w _ hw197_1)).trans hw197_1), ((HB.out.cell (World.block_lt_of_cell? w _ hw197_2)).trans hw197_2), ((HB.out.cell (World.block_lt_of_cell? w _ hw197_3)).trans hw197_3), ((HB.out.cell (World.block_lt_of_cell? w _ hw197_4)).trans hw197_4), ((HB.out.cell (World.block_lt_of_cell? w _ hw197_5)).trans hw197_5), ((HB.out.cell (World.block_lt_of_cell? w _ hw198_0)).trans hw198_0), ((HB.out.cell (World.block_lt_of_cell? w _ hw198_1)).trans hw198_1), ((HB.out.cell (World.block_lt_of_cell? w _ hw198_2)).trans hw198_2), ((HB.out.cell (World.block_lt_of_cell? w _ hw198_3)).trans hw198_3), ((HB.out.cell (World.block_lt_of_cell? w _ hw198_4)).trans hw198_4), ((HB.out.cell (World.block_lt_of_cell? w _ hw198_5)).trans hw198_5)⟩ (fun hHeld => ?_); refine with_tabW dioramaref36_SameAll.tab6 dioramaref36_SameAll.bits6 (fun HT_ HW_ => ?_)
                generalize wr.drew = w9 at HB HR197_5 HR198_5 hx197_0 hx197_1 hx197_2 hx197_3 hx197_4 hx197_5 hx198_0 hx198_1 hx198_2 hx198_3 hx198_4 hx198_5 hHeld ⊢; refine pure_ (i := 0) (N := some 17) (v := ?_) (a' := ?_) #[I_,O_,O_,O_,O_,O_,O_,O_,O_,O_] rfl rfl (any_of HT_.out (by kernel_rfl)) (fun _ _ _ h => h) (Or.inl ⟨by rfl, ?_⟩) ?_ ?_; rotate_left; (· intro w'; go_simp; with_reducible rfl); rotate_left; (· simp only [Act.put, sA_, sB_, sC_, i64_w, i32_w]; rfl); refine pure_ (i := 1) (N := some 18) (v := ?_) (a' := ?_) #[I_,I_,O_,O_,O_,O_,O_,O_,O_,O_] rfl rfl (any_of HT_.out (by kernel_rfl)) (fun _ _ _ h => h) (Or.inl ⟨by rfl, ?_⟩) ?_ ?_; rotate_left; (· intro w'; go_simp; with_reducible rfl); rotate_left; (· simp only [Act.put, sA_, sB_, sC_, i64_w, i32_w]; rfl); refine pure_ (i := 2) (N := some 19) (v := ?_) (a' := ?_) #[I_,I_,I_,O_,O_,O_,O_,O_,O_,O_] rfl rfl (any_of HT_.out (by kernel_rfl)) (fun _ _ _ h => h) (Or.inl ⟨by rfl, ?_⟩) ?_ ?_; rotate_left; (· intro w'; go_simp; with_reducible rfl); rotate_left; (· simp only [Act.put, sA_, sB_, sC_, i64_w, i32_w]; rfl); refine pure_ (i := 4) (N := some 21) (v := ?_) (a' := ?_) #[I_,I_,I_,O_,I_,O_,O_,O_,O_,O_] rfl rfl (any_of HT_.out (by kernel_rfl)) (fun _ _ _ h => h) (Or.inl ⟨by rfl, ?_⟩) ?_ ?_; rotate_left; (· intro w'; go_simp; with_reducible rfl); rotate_left; (· simp only [Act.put, sA_, sB_, sC_, i64_w, i32_w]; rfl); refine pure_ (i := 5) (N := some 22) (v := ?_) (a' := ?_) #[I_,I_,I_,O_,I_,I_,O_,O_,O_,O_] rfl rfl (any_of HT_.out (by kernel_rfl)) (fun _ _ _ h => h) (Or.inl ⟨by rfl, ?_⟩) ?_ ?_; rotate_left; (· intro w'; go_simp; with_reducible rfl); rotate_left; (· simp only [Act.put, sA_, sB_, sC_, i64_w, i32_w]; rfl); refine pure_ (i := 6) (N := some 23) (v := ?_) (a' := ?_) #[I_,I_,I_,O_,I_,I_,I_,O_,O_,O_] rfl rfl (any_of HT_.out (by kernel_rfl)) (fun _ _ _ h => h) (Or.inl ⟨by rfl, ?_⟩) ?_ ?_; rotate_left; (· intro w'; go_simp; with_reducible rfl); rotate_left; (· simp only [Act.put, sA_, sB_, sC_, i64_w, i32_w]; rfl); refine take_ (i := 3) (N := some 20) (v := ?_) (a' := ?_) #[I_,I_,I_,I_,I_,I_,I_,O_,O_,O_] rfl rfl (take_ofW HT_.out HW_.out (by kernel_rfl)) (fun _ _ _ h => h) (Or.inl ⟨by rfl, ?_⟩) hHeld ?_ ?_; rotate_left; (· rintro w' ⟨s0, s1, s2, s3, s4, s5, s6, s7, s8, s9, s10, s11⟩; go_simp; with_reducible rfl); rotate_left; (· simp only [Act.put, sA_, sB_, sC_, i64_w, i32_w]; rfl); refine take_ (i := 7) (N := some 24) (v := ?_) (a' := ?_) #[I_,I_,I_,I_,I_,I_,I_,I_,O_,O_] rfl rfl (take_ofW HT_.out HW_.out (by kernel_rfl)) (fun _ _ _ h => h) (Or.inl ⟨by rfl, ?_⟩) hHeld ?_ ?_
                rotate_left; (· rintro w' ⟨s0, s1, s2, s3, s4, s5, s6, s7, s8, s9, s10, s11⟩; go_simp; with_reducible rfl); rotate_left; (· simp only [Act.put, sA_, sB_, sC_, i64_w, i32_w]; rfl); refine one_ (i := 8) (N := some 25) #[I_,I_,I_,I_,I_,I_,I_,I_,I_,O_] rfl rfl (one_of HT_.out (by kernel_rfl)) (by decide) (fun K hK => ?_); refine goes_ Try.func42 (by kernel_rfl) rfl #[.agg #[.int .i64 ((rd_T76 l0 x5_1).f0), .int .i64 ((rd_T76 l0 x5_1).f1), .int .i64 ((rd_T76 l0 x5_1).f2), .int .i64 ((rd_T76 l0 x5_1).f3), .int .i64 ((rd_T76 l0 x5_1).f4), .slice A197_5 ((rd_T76 l0 x5_1).f5).length c197_5], .agg #[.int .i64 ((rd_T76 l1 x5_1).f0), .int .i64 ((rd_T76 l1 x5_1).f1), .int .i64 ((rd_T76 l1 x5_1).f2), .int .i64 ((rd_T76 l1 x5_1).f3), .int .i64 ((rd_T76 l1 x5_1).f4), .slice A198_5 ((rd_T76 l1 x5_1).f5).length c198_5]] (by rfl) rfl rfl (by (try simp only [List.map_toArray, List.map_cons, List.map_nil]); first | done | rfl | (simp only [List.length_drop, List.length_take]; rfl)) ?_
                with_reducible refine (dioramaref36_Same.calls k1 ((rd_T76 l0 x5_1).f0) ((rd_T76 l0 x5_1).f1) ((rd_T76 l0 x5_1).f2) ((rd_T76 l0 x5_1).f3) ((rd_T76 l0 x5_1).f4) _ _ ((rd_T76 l0 x5_1).f5) ((rd_T76 l1 x5_1).f0) ((rd_T76 l1 x5_1).f1) ((rd_T76 l1 x5_1).f2) ((rd_T76 l1 x5_1).f3) ((rd_T76 l1 x5_1).f4) _ _ ((rd_T76 l1 x5_1).f5) true _ ?side1 ?side2 ?side3 ?side4 A7.out).mono ?_
                (case side1 => repeat (first | exact (Kd.C_below HR197_5.out HB.out) | (with_reducible refine Kd.C_alloc ?_ _) | (with_reducible refine Kd.C_drewN ?_ _) | (with_reducible refine Kd.C_drew ?_)))
                (case side2 => exact HC197_5.out)
                (case side3 => repeat (first | exact (Kd.C_below HR198_5.out HB.out) | (with_reducible refine Kd.C_alloc ?_ _) | (with_reducible refine Kd.C_drewN ?_ _) | (with_reducible refine Kd.C_drew ?_)))
                (case side4 => exact HC198_5.out)
                rintro e w10 ⟨rfl, hb⟩; refine ⟨_, rfl, ?_⟩; have n0_ := Aside0.mk (below_step (by repeat (first | (with_reducible first | exact HB.out | apply below_alloc | apply pw_below_drewN | apply below_drew1) | exact HB.out)) hb); clear HB; have HB := n0_; clear n0_
                (try clear hb)
                (try clear hb2)
                (try clear hk)
                (try clear hi)
                refine hK.out _ _ ⟨((HB.out.cell (World.block_lt_of_cell? w _ hw197_0)).trans hw197_0), ((HB.out.cell (World.block_lt_of_cell? w _ hw197_1)).trans hw197_1), ((HB.out.cell (World.block_lt_of_cell? w _ hw197_2)).trans hw197_2), ((HB.out.cell (World.block_lt_of_cell? w _ hw197_3)).trans hw197_3), ((HB.out.cell (World.block_lt_of_cell? w _ hw197_4)).trans hw197_4), ((HB.out.cell (World.block_lt_of_cell? w _ hw197_5)).trans hw197_5), ((HB.out.cell (World.block_lt_of_cell? w _ hw198_0)).trans hw198_0), ((HB.out.cell (World.block_lt_of_cell? w _ hw198_1)).trans hw198_1), ((HB.out.cell (World.block_lt_of_cell? w _ hw198_2)).trans hw198_2), ((HB.out.cell (World.block_lt_of_cell? w _ hw198_3)).trans hw198_3), ((HB.out.cell (World.block_lt_of_cell? w _ hw198_4)).trans hw198_4), ((HB.out.cell (World.block_lt_of_cell? w _ hw198_5)).trans hw198_5)⟩ (fun hHeld => ?_); clear hK K; refine norm_ (a' := ?_) ?_ ?_; rotate_left
                · show Act.put _ (some 25) _ = _
                  simp only [Act.put, sA_, sB_, sC_, i64_w, i32_w]; rfl
                refine pure_ (i := 9) (N := some 26) (v := ?_) (a' := ?_) #[I_,I_,I_,I_,I_,I_,I_,I_,I_,I_] rfl rfl (any_of HT_.out (by kernel_rfl)) (fun _ _ _ h => h) (Or.inl ⟨by rfl, ?_⟩) ?_ ?_; rotate_left; (· intro w'; go_simp; with_reducible rfl); rotate_left; (· simp only [Act.put, sA_, sB_, sC_, i64_w, i32_w]; rfl); refine done_ (done_of HT_.out (by kernel_rfl)) ?_
                try go_wp2
                go_roundg k1
                case measure => have := HK1.out; omega
                case rel => exact ⟨(wrap64 (x5_1 + 1)), (by first | rfl | (simp; done) | (simp [*]; done)), H', ⟨by have := HK1.out; omega⟩, ⟨by repeat (first | (with_reducible first | exact HB.out | apply below_alloc | apply pw_below_drewN | apply below_drew1) | exact HB.out)⟩⟩
              · replace c8 := Bool.eq_false_iff.mpr c8
                subst c8
                have H1 : (some false) = some r := by rw [if_neg (show ¬ (false = true) by decide)] at H; exact H
                clear H; have H := H1; clear H1; obtain rfl := Option.some.inj H
                try go_wp2
                have n0_ := Aside0.mk (below_drew1 HB.out); clear HB; have HB := n0_; clear n0_; have p197 : 0 ≤ (x5_1 : Int) := of_decide_eq_true (by first | (with_reducible assumption) | assumption); have q197 : x5_1 < (l0.length : Int) := of_decide_eq_true (by first | (with_reducible assumption) | assumption); obtain ⟨ad197, A197_5, c197_5, e197, hx197_0, hx197_1, hx197_2, hx197_3, hx197_4, hx197_5, hl197_5, hi197_5⟩ := at_T76 HR0.out x5_1 p197 q197; have hw197_5 := hx197_5; have hw197_4 := hx197_4; have hw197_3 := hx197_3; have hw197_2 := hx197_2; have hw197_1 := hx197_1; have hw197_0 := hx197_0
                cases e197
                replace hx197_0 := (HB.out.cell (World.block_lt_of_cell? w _ hx197_0)).trans hx197_0; replace hx197_1 := (HB.out.cell (World.block_lt_of_cell? w _ hx197_1)).trans hx197_1; replace hx197_2 := (HB.out.cell (World.block_lt_of_cell? w _ hx197_2)).trans hx197_2; replace hx197_3 := (HB.out.cell (World.block_lt_of_cell? w _ hx197_3)).trans hx197_3; replace hx197_4 := (HB.out.cell (World.block_lt_of_cell? w _ hx197_4)).trans hx197_4; replace hx197_5 := (HB.out.cell (World.block_lt_of_cell? w _ hx197_5)).trans hx197_5; have HR197_5 := Aside0.mk hi197_5; have HC197_5 := Aside0.mk hl197_5; clear hi197_5 hl197_5; replace p197 := eq_true p197; replace q197 := eq_true q197; have p198 : 0 ≤ (x5_1 : Int) := of_decide_eq_true (by first | (with_reducible assumption) | assumption); have q198 : x5_1 < (l1.length : Int) := of_decide_eq_true (by first | (with_reducible assumption) | assumption); obtain ⟨ad198, A198_5, c198_5, e198, hx198_0, hx198_1, hx198_2, hx198_3, hx198_4, hx198_5, hl198_5, hi198_5⟩ := at_T76 HR1.out x5_1 p198 q198; have hw198_5 := hx198_5; have hw198_4 := hx198_4; have hw198_3 := hx198_3; have hw198_2 := hx198_2; have hw198_1 := hx198_1; have hw198_0 := hx198_0
                cases e198
                replace hx198_0 := (HB.out.cell (World.block_lt_of_cell? w _ hx198_0)).trans hx198_0; replace hx198_1 := (HB.out.cell (World.block_lt_of_cell? w _ hx198_1)).trans hx198_1; replace hx198_2 := (HB.out.cell (World.block_lt_of_cell? w _ hx198_2)).trans hx198_2; replace hx198_3 := (HB.out.cell (World.block_lt_of_cell? w _ hx198_3)).trans hx198_3; replace hx198_4 := (HB.out.cell (World.block_lt_of_cell? w _ hx198_4)).trans hx198_4; replace hx198_5 := (HB.out.cell (World.block_lt_of_cell? w _ hx198_5)).trans hx198_5; have HR198_5 := Aside0.mk hi198_5; have HC198_5 := Aside0.mk hl198_5; clear hi198_5 hl198_5; replace p198 := eq_true p198; replace q198 := eq_true q198; refine start_ (n := 10) (S := fun w' => w'.cell? (ad197.add ((x5_1).toNat * 6)) = some (.int .i64 ((rd_T76 l0 x5_1).f0)) ∧ w'.cell? ⟨(ad197.add ((x5_1).toNat * 6)).block, (ad197.add ((x5_1).toNat * 6)).off + 1, none⟩ = some (.int .i64 ((rd_T76 l0 x5_1).f1)) ∧ w'.cell? ⟨(ad197.add ((x5_1).toNat * 6)).block, (ad197.add ((x5_1).toNat * 6)).off + 2, none⟩ = some (.int .i64 ((rd_T76 l0 x5_1).f2)) ∧ w'.cell? ⟨(ad197.add ((x5_1).toNat * 6)).block, (ad197.add ((x5_1).toNat * 6)).off + 3, none⟩ = some (.int .i64 ((rd_T76 l0 x5_1).f3)) ∧ w'.cell? ⟨(ad197.add ((x5_1).toNat * 6)).block, (ad197.add ((x5_1).toNat * 6)).off + 4, none⟩ = some (.int .i64 ((rd_T76 l0 x5_1).f4)) ∧ w'.cell? ⟨(ad197.add ((x5_1).toNat * 6)).block, (ad197.add ((x5_1).toNat * 6)).off + 5, none⟩ = some (.slice A197_5 ((rd_T76 l0 x5_1).f5).length c197_5) ∧ w'.cell? (ad198.add ((x5_1).toNat * 6)) = some (.int .i64 ((rd_T76 l1 x5_1).f0)) ∧ w'.cell? ⟨(ad198.add ((x5_1).toNat * 6)).block, (ad198.add ((x5_1).toNat * 6)).off + 1, none⟩ = some (.int .i64 ((rd_T76 l1 x5_1).f1)) ∧ w'.cell? ⟨(ad198.add ((x5_1).toNat * 6)).block, (ad198.add ((x5_1).toNat * 6)).off + 2, none⟩ = some (.int .i64 ((rd_T76 l1 x5_1).f2)) ∧ w'.cell? ⟨(ad198.add ((x5_1).toNat * 6)).block, (ad198.add ((x5_1).toNat * 6)).off + 3, none⟩ = some (.int .i64 ((rd_T76 l1 x5_1).f3)) ∧ w'.cell? ⟨(ad198.add ((x5_1).toNat * 6)).block, (ad198.add ((x5_1).toNat * 6)).off + 4, none⟩ = some (.int .i64 ((rd_T76 l1 x5_1).f4)) ∧ w'.cell? ⟨(ad198.add ((x5_1).toNat * 6)).block, (ad198.add ((x5_1).toNat * 6)).off + 5, none⟩ = some (.slice A198_5 ((rd_T76 l1 x5_1).f5).length c198_5)) (ds := []) #[O_,O_,O_,O_,O_,O_,O_,O_,O_,O_] (by kernel_rfl) rfl rfl ⟨((HB.out.cell (World.block_lt_of_cell? w _ hw197_0)).trans hw197_0), ((HB.out.cell (World.block_lt_of_cell? w _ hw197_1)).trans hw197_1), ((HB.out.cell (World.block_lt_of_cell? w _ hw197_2)).trans hw197_2), ((HB.out.cell (World.block_lt_of_cell? w _ hw197_3)).trans hw197_3), ((HB.out.cell (World.block_lt_of_cell? w _ hw197_4)).trans hw197_4), ((HB.out.cell (World.block_lt_of_cell? w _ hw197_5)).trans hw197_5), ((HB.out.cell (World.block_lt_of_cell? w _ hw198_0)).trans hw198_0), ((HB.out.cell (World.block_lt_of_cell? w _ hw198_1)).trans hw198_1), ((HB.out.cell (World.block_lt_of_cell? w _ hw198_2)).trans hw198_2), ((HB.out.cell (World.block_lt_of_cell? w _ hw198_3)).trans hw198_3), ((HB.out.cell (World.block_lt_of_cell? w _ hw198_4)).trans hw198_4), ((HB.out.cell (World.block_lt_of_cell? w _ hw198_5)).trans hw198_5)⟩ (fun hHeld => ?_); refine with_tabW dioramaref36_SameAll.tab6 dioramaref36_SameAll.bits6 (fun HT_ HW_ => ?_)
                generalize wr.drew = w11 at HB HR197_5 HR198_5 hx197_0 hx197_1 hx197_2 hx197_3 hx197_4 hx197_5 hx198_0 hx198_1 hx198_2 hx198_3 hx198_4 hx198_5 hHeld ⊢; refine pure_ (i := 0) (N := some 17) (v := ?_) (a' := ?_) #[I_,O_,O_,O_,O_,O_,O_,O_,O_,O_] rfl rfl (any_of HT_.out (by kernel_rfl)) (fun _ _ _ h => h) (Or.inl ⟨by rfl, ?_⟩) ?_ ?_; rotate_left; (· intro w'; go_simp; with_reducible rfl); rotate_left; (· simp only [Act.put, sA_, sB_, sC_, i64_w, i32_w]; rfl); refine pure_ (i := 1) (N := some 18) (v := ?_) (a' := ?_) #[I_,I_,O_,O_,O_,O_,O_,O_,O_,O_] rfl rfl (any_of HT_.out (by kernel_rfl)) (fun _ _ _ h => h) (Or.inl ⟨by rfl, ?_⟩) ?_ ?_; rotate_left; (· intro w'; go_simp; with_reducible rfl); rotate_left; (· simp only [Act.put, sA_, sB_, sC_, i64_w, i32_w]; rfl); refine pure_ (i := 2) (N := some 19) (v := ?_) (a' := ?_) #[I_,I_,I_,O_,O_,O_,O_,O_,O_,O_] rfl rfl (any_of HT_.out (by kernel_rfl)) (fun _ _ _ h => h) (Or.inl ⟨by rfl, ?_⟩) ?_ ?_; rotate_left; (· intro w'; go_simp; with_reducible rfl); rotate_left; (· simp only [Act.put, sA_, sB_, sC_, i64_w, i32_w]; rfl); refine pure_ (i := 4) (N := some 21) (v := ?_) (a' := ?_) #[I_,I_,I_,O_,I_,O_,O_,O_,O_,O_] rfl rfl (any_of HT_.out (by kernel_rfl)) (fun _ _ _ h => h) (Or.inl ⟨by rfl, ?_⟩) ?_ ?_; rotate_left; (· intro w'; go_simp; with_reducible rfl); rotate_left; (· simp only [Act.put, sA_, sB_, sC_, i64_w, i32_w]; rfl); refine pure_ (i := 5) (N := some 22) (v := ?_) (a' := ?_) #[I_,I_,I_,O_,I_,I_,O_,O_,O_,O_] rfl rfl (any_of HT_.out (by kernel_rfl)) (fun _ _ _ h => h) (Or.inl ⟨by rfl, ?_⟩) ?_ ?_; rotate_left; (· intro w'; go_simp; with_reducible rfl); rotate_left; (· simp only [Act.put, sA_, sB_, sC_, i64_w, i32_w]; rfl); refine pure_ (i := 6) (N := some 23) (v := ?_) (a' := ?_) #[I_,I_,I_,O_,I_,I_,I_,O_,O_,O_] rfl rfl (any_of HT_.out (by kernel_rfl)) (fun _ _ _ h => h) (Or.inl ⟨by rfl, ?_⟩) ?_ ?_; rotate_left; (· intro w'; go_simp; with_reducible rfl); rotate_left; (· simp only [Act.put, sA_, sB_, sC_, i64_w, i32_w]; rfl); refine take_ (i := 3) (N := some 20) (v := ?_) (a' := ?_) #[I_,I_,I_,I_,I_,I_,I_,O_,O_,O_] rfl rfl (take_ofW HT_.out HW_.out (by kernel_rfl)) (fun _ _ _ h => h) (Or.inl ⟨by rfl, ?_⟩) hHeld ?_ ?_; rotate_left; (· rintro w' ⟨s0, s1, s2, s3, s4, s5, s6, s7, s8, s9, s10, s11⟩; go_simp; with_reducible rfl); rotate_left; (· simp only [Act.put, sA_, sB_, sC_, i64_w, i32_w]; rfl); refine take_ (i := 7) (N := some 24) (v := ?_) (a' := ?_) #[I_,I_,I_,I_,I_,I_,I_,I_,O_,O_] rfl rfl (take_ofW HT_.out HW_.out (by kernel_rfl)) (fun _ _ _ h => h) (Or.inl ⟨by rfl, ?_⟩) hHeld ?_ ?_
                rotate_left; (· rintro w' ⟨s0, s1, s2, s3, s4, s5, s6, s7, s8, s9, s10, s11⟩; go_simp; with_reducible rfl); rotate_left; (· simp only [Act.put, sA_, sB_, sC_, i64_w, i32_w]; rfl); refine one_ (i := 8) (N := some 25) #[I_,I_,I_,I_,I_,I_,I_,I_,I_,O_] rfl rfl (one_of HT_.out (by kernel_rfl)) (by decide) (fun K hK => ?_); refine goes_ Try.func42 (by kernel_rfl) rfl #[.agg #[.int .i64 ((rd_T76 l0 x5_1).f0), .int .i64 ((rd_T76 l0 x5_1).f1), .int .i64 ((rd_T76 l0 x5_1).f2), .int .i64 ((rd_T76 l0 x5_1).f3), .int .i64 ((rd_T76 l0 x5_1).f4), .slice A197_5 ((rd_T76 l0 x5_1).f5).length c197_5], .agg #[.int .i64 ((rd_T76 l1 x5_1).f0), .int .i64 ((rd_T76 l1 x5_1).f1), .int .i64 ((rd_T76 l1 x5_1).f2), .int .i64 ((rd_T76 l1 x5_1).f3), .int .i64 ((rd_T76 l1 x5_1).f4), .slice A198_5 ((rd_T76 l1 x5_1).f5).length c198_5]] (by rfl) rfl rfl (by (try simp only [List.map_toArray, List.map_cons, List.map_nil]); first | done | rfl | (simp only [List.length_drop, List.length_take]; rfl)) ?_
                with_reducible refine (dioramaref36_Same.calls k1 ((rd_T76 l0 x5_1).f0) ((rd_T76 l0 x5_1).f1) ((rd_T76 l0 x5_1).f2) ((rd_T76 l0 x5_1).f3) ((rd_T76 l0 x5_1).f4) _ _ ((rd_T76 l0 x5_1).f5) ((rd_T76 l1 x5_1).f0) ((rd_T76 l1 x5_1).f1) ((rd_T76 l1 x5_1).f2) ((rd_T76 l1 x5_1).f3) ((rd_T76 l1 x5_1).f4) _ _ ((rd_T76 l1 x5_1).f5) false _ ?side1 ?side2 ?side3 ?side4 A7.out).mono ?_
                (case side1 => repeat (first | exact (Kd.C_below HR197_5.out HB.out) | (with_reducible refine Kd.C_alloc ?_ _) | (with_reducible refine Kd.C_drewN ?_ _) | (with_reducible refine Kd.C_drew ?_)))
                (case side2 => exact HC197_5.out)
                (case side3 => repeat (first | exact (Kd.C_below HR198_5.out HB.out) | (with_reducible refine Kd.C_alloc ?_ _) | (with_reducible refine Kd.C_drewN ?_ _) | (with_reducible refine Kd.C_drew ?_)))
                (case side4 => exact HC198_5.out)
                rintro e w12 ⟨rfl, hb⟩; refine ⟨_, rfl, ?_⟩; have n0_ := Aside0.mk (below_step (by repeat (first | (with_reducible first | exact HB.out | apply below_alloc | apply pw_below_drewN | apply below_drew1) | exact HB.out)) hb); clear HB; have HB := n0_; clear n0_
                (try clear hb)
                (try clear hb2)
                (try clear hk)
                (try clear hi)
                refine hK.out _ _ ⟨((HB.out.cell (World.block_lt_of_cell? w _ hw197_0)).trans hw197_0), ((HB.out.cell (World.block_lt_of_cell? w _ hw197_1)).trans hw197_1), ((HB.out.cell (World.block_lt_of_cell? w _ hw197_2)).trans hw197_2), ((HB.out.cell (World.block_lt_of_cell? w _ hw197_3)).trans hw197_3), ((HB.out.cell (World.block_lt_of_cell? w _ hw197_4)).trans hw197_4), ((HB.out.cell (World.block_lt_of_cell? w _ hw197_5)).trans hw197_5), ((HB.out.cell (World.block_lt_of_cell? w _ hw198_0)).trans hw198_0), ((HB.out.cell (World.block_lt_of_cell? w _ hw198_1)).trans hw198_1), ((HB.out.cell (World.block_lt_of_cell? w _ hw198_2)).trans hw198_2), ((HB.out.cell (World.block_lt_of_cell? w _ hw198_3)).trans hw198_3), ((HB.out.cell (World.block_lt_of_cell? w _ hw198_4)).trans hw198_4), ((HB.out.cell (World.block_lt_of_cell? w _ hw198_5)).trans hw198_5)⟩ (fun hHeld => ?_); clear hK K; refine norm_ (a' := ?_) ?_ ?_; rotate_left
                · show Act.put _ (some 25) _ = _
                  simp only [Act.put, sA_, sB_, sC_, i64_w, i32_w]; rfl
                refine pure_ (i := 9) (N := some 26) (v := ?_) (a' := ?_) #[I_,I_,I_,I_,I_,I_,I_,I_,I_,I_] rfl rfl (any_of HT_.out (by kernel_rfl)) (fun _ _ _ h => h) (Or.inl ⟨by rfl, ?_⟩) ?_ ?_; rotate_left; (· intro w'; go_simp; with_reducible rfl); rotate_left; (· simp only [Act.put, sA_, sB_, sC_, i64_w, i32_w]; rfl); refine done_ (done_of HT_.out (by kernel_rfl)) ?_
                try go_wp2
                go_ret; exact ⟨by first | rfl | (simp [errW_none, errW_some] <;> rfl) | (simp [*, errW_none, errW_some] <;> rfl), by repeat (first | (with_reducible first | exact HB.out | apply below_alloc | apply pw_below_drewN | apply below_drew1) | exact HB.out)⟩
            (· rw [if_neg c6] at H; exact absurd H (by simp))
          (· rw [if_neg c5] at H; exact absurd H (by simp))
        (· rw [if_neg c4] at H; have c4b0 : decide (x5_1 < (l0.length : Int)) = false := decide_eq_false c4; clear c4; obtain rfl := Option.some.inj H; go_wp2; go_ret; exact ⟨by first | rfl | (simp [errW_none, errW_some] <;> rfl) | (simp [*, errW_none, errW_some] <;> rfl), by repeat (first | (with_reducible first | exact HB.out | apply below_alloc | apply pw_below_drewN | apply below_drew1) | exact HB.out)⟩)
  · rw [if_neg c3] at H
    have c3b0 : ((l0.length : Int) == (l1.length : Int)) = false := beq_eq_false_iff_ne.mpr c3; have c3b1 : ((l0.length : Int) != (l1.length : Int)) = true := bne_iff_ne.mpr c3
    have c3b2 : (l0.length == l1.length) = false := by first | simpa using c3 | (simp at c3 ⊢; omega)
    obtain rfl := Option.some.inj H
    go_enter Try.func16, Try.ntmps16
    go_wp2; go_ret; exact ⟨by first | rfl | (simp [errW_none, errW_some] <;> rfl) | (simp [*, errW_none, errW_some] <;> rfl), by repeat (first | (with_reducible first | exact HB.out | apply below_alloc | apply pw_below_drewN | apply below_drew1) | exact HB.out)⟩
end Go.Proofs.Ytcgpemefmakjiaa.PX
namespace Go.Proofs.Ytcgpemefmakjiaa.PX
open Go.RowKit Go.Proofs.YtcgpemefmakjiaaW.PrintWords Go.Proofs.YtcgpemefmakjiaaW.PrintLast Go.Proofs.YtcgpemefmakjiaaW.PrintMore
set_option linter.unusedVariables false
set_option linter.unusedSimpArgs false
namespace Lives
def la : Wd := [[[1, 2], [3, 4]]]
def lb : Wd := [[[1, 5], [3, 4], [6, 7]]]
def lc : Wd := [[[1, 2], [5, 6]]]
def ld : Wd := [[[1, 2, 3], [4, 5, 6]]]
def le : Wd := [[[1, 2, 3], [7, 8, 9]]]
def d1 : List S61 := [⟨0, 0, 1, 2, 5, []⟩, ⟨0, 2, -1, 0, 0, [6, 7]⟩]
def d2 : List S61 := [⟨0, 1, 0, 3, 5, []⟩, ⟨0, 1, 1, 4, 6, []⟩]
def d3 : List S61 := [⟨0, 1, -2, 0, 0, [4, 5, 6]⟩, ⟨0, 1, -1, 0, 0, [7, 8, 9]⟩]
def p1 : List S76 := [⟨0, 0, 1, 2, 5, []⟩, ⟨0, 2, -1, 0, 0, [6, 7]⟩]
theorem e1 : diff_Diff.f la lb = some (d1, 0) := by rfl
theorem e2 : diff_Diff.f la lc = some (d2, 0) := by rfl
theorem e3 : diff_Diff.f ld le = some (d3, 0) := by rfl
theorem e4 : diff_Apply.f la d1 = some (lb, 0) := by rfl
theorem e5 : dioramaref36_SameWorld.f 20 lb lb = some true := by kernel_rfl
theorem e6 : dioramalaw36_plain.f 20 d1 = some p1 := by kernel_rfl
theorem e7 : dioramaref36_SameAll.f 20 p1 p1 = some true := by kernel_rfl
def AllR {α β : Type} (R : α → β → Prop) : List α → List β → Prop
  | [], [] => True
  | a :: l, b :: m => R a b ∧ AllR R l m
  | _, _ => False
theorem AllR.reps {α : Type} {R : Value → α → Prop} : ∀ {vs : List Value} {xs : List α}, AllR R vs xs → Reps (fun x c => ∃ v, c = [v] ∧ R v x) 1 xs vs
  | [], [], _ => ⟨rfl, fun j p h => by simp at h⟩
  | a :: l, b :: m, h => by
    have ih := AllR.reps h.2; refine ⟨by simp only [List.length_cons]; have := ih.1; omega, fun j p hj => ?_⟩
    cases j with
    | zero =>
      have : b = p := by simpa using hj
      subst this; exact ⟨a, by simp, h.1⟩
    | succ j =>
      have := ih.2 j p (by simpa using hj)
      have e : (j + 1) * 1 = j * 1 + 1 := by omega
      rw [e, List.drop_succ_cons]; exact this
  | [], _ :: _, h => h.elim
  | _ :: _, [], h => h.elim
theorem lit_row {α : Type} {d : Kd α} {W : World} {g : Nat} {cs : Array Value} {t : TypeId} {xs : List α} (h : W.heap[g]? = some (.cells cs t (0, 0))) (hm : xs.length ≤ 9223372036854775807) (hr : Reps (d.K W) d.sz xs cs.toList) : Kd.C d W (some ⟨g, 0, none⟩) xs.length xs := by
  refine ⟨rfl, hm, fun _ => ⟨_, rfl, fun j p hj => ⟨(cs.toList.drop (j * d.sz)).take d.sz, d.K_len (hr.2 j p hj), hr.2 j p hj, fun i u hi => ?_⟩⟩⟩; rw [add_head, cell_of_row W g _ cs t (0, 0) h]; rw [List.getElem?_take] at hi
  split at hi
  · rw [List.getElem?_drop] at hi
    simpa using hi
  · cases hi
theorem lit3 {W : World} {g : Nat} {cs : Array Value} {t : TypeId} {xs : List Int} (h : W.heap[g]? = some (.cells cs t (0, 0))) (hm : xs.length ≤ 9223372036854775807) (hr : AllR (fun v x => v = Value.int .i64 x) cs.toList xs) : Kd.C (Kd.int .i64) W (some ⟨g, 0, none⟩) xs.length xs :=
  lit_row h hm (hr.reps.imp_ (fun x c ⟨v, hc, hv⟩ => by subst hv; exact hc))
theorem litS {α : Type} {d : Kd α} {e : Nat} {W : World} {g : Nat} {cs : Array Value} {t : TypeId} {xs : List (List α)} (h : W.heap[g]? = some (.cells cs t (0, 0))) (hm : xs.length ≤ 9223372036854775807)
    (hr : AllR (fun v (x : List α) => ∃ A c, v = Value.slice A x.length c ∧ x.length ≤ c ∧ Kd.C d W A x.length x) cs.toList xs) : Kd.C (Kd.slice e d) W (some ⟨g, 0, none⟩) xs.length xs :=
  lit_row h hm (hr.reps.imp_ (fun x c ⟨v, hc, A, c', hv, h1, h2⟩ => by subst hv; exact ⟨A, c', hc, h1, h2⟩))
section
variable {P : Program} {ops : Array Oper} {rest : List Oper} {o : Oper} {a : Act} {Q : Exit → Act → World → Prop}
theorem lit_event {W : World} (hgd : o.guard = none) {N : Tmp} (_hd : o.dst = some N) {cs : Array Value} {t : TypeId} {n : Nat}
    (hrun : (execOp a.eval o).run P W = .ok (.value (.slice (some ⟨W.heap.size, 0, none⟩) n n)) (W.alloc (.cells cs t (0, 0))))
    (h : ∀ g, g = W.heap.size → ∀ w1, w1.heap[g]? = some (.cells cs t (0, 0)) → Below W.heap.size W w1 → wpList P ops Q rest (a.put o.dst (.slice (some ⟨g, 0, none⟩) n n)) w1) : wpList P ops Q (o :: rest) a W :=
  Kd.event_run hgd hrun (h _ rfl _ (blk_new W _) (below_alloc (Below.refl _ _) _))
end
abbrev CW (w : World) (g : Nat) (l : Wd) : Prop := Kd.C (Kd.slice 22 (Kd.slice 3 (Kd.int .i64))) w (some ⟨g, 0, none⟩) 1 l
def DPost (w : World) (d : List S61) (n : Nat) (e : Ending) (w' : World) : Prop := ∃ A c, e = .returned (.tuple #[.slice A n c, .int .i64 0]) ∧ Kd.N k61 61 w' w.heap.size (fun k_ => w.heap.size ≤ k_) (.slice A n c) d ∧ Below w.heap.size w w'
theorem diff_lit {la lb : Wd} {d : List S61} {n : Nat} (g h : Nat) (w : World) (hl : la.length = 1) (hm : lb.length = 1) (hn : d.length = n) (he : diff_Diff.f la lb = some (d, 0)) (hA : CW w g la) (hB : CW w h lb) :
    Calls Try.prog 14 #[.slice (some ⟨g, 0, none⟩) 1 1, .slice (some ⟨h, 0, none⟩) 1 1] w (DPost w d n) := by
  have := diff_Diff.calls (some ⟨g, 0, none⟩) 1 la (some ⟨h, 0, none⟩) 1 lb d 0 w (by rw [hl]; exact hA) (by omega) (by rw [hm]; exact hB) (by omega) he; rw [hl, hm] at this; refine this.mono ?_; rintro e w' ⟨v, rfl, h1, h2⟩; obtain ⟨A, c, rfl⟩ := Kd.N_slice h1; rw [hn] at h1 ⊢; exact ⟨A, c, rfl, h1, h2⟩
def APost (w : World) (l : Wd) (e : Ending) (w' : World) : Prop := ∃ A c, e = .returned (.tuple #[.slice A 1 c, .int .i64 0]) ∧ Kd.C (Kd.slice 22 (Kd.slice 3 (Kd.int .i64))) w' A 1 l ∧ 1 ≤ c ∧ Below w.heap.size w w'
theorem apply_lit (g : Nat) (A : Option Addr) (c : Nat) (w : World) (hA : CW w g la) (hB : Kd.C k61 w A 2 d1) (hc : 2 ≤ c) : Calls Try.prog 19 #[.slice (some ⟨g, 0, none⟩) 1 1, .slice A 2 c] w (APost w lb) := by
  have := diff_Apply.calls (some ⟨g, 0, none⟩) 1 la A c d1 lb 0 w hA (by decide) hB hc e4; refine this.mono ?_; rintro e w' ⟨v, rfl, h1, h2⟩; obtain ⟨A, c, rfl, h3, h4⟩ := Kd.R_reads h1; exact ⟨A, c, rfl, h4, h3, h2⟩
theorem same_lit (g : Nat) (A : Option Addr) (c : Nat) (w : World) (hA : Kd.C (Kd.slice 22 (Kd.slice 3 (Kd.int .i64))) w A 1 lb) (hc : 1 ≤ c) (hB : CW w g lb) : Calls Try.prog 21 #[.slice A 1 c, .slice (some ⟨g, 0, none⟩) 1 1] w fun e w' => e = .returned (.bool true) ∧ Drawn0 w w' :=
  dioramaref36_SameWorld.calls 20 A c lb (some ⟨g, 0, none⟩) 1 lb true w hA hc hB (by decide) e5
def PPost (w : World) (e : Ending) (w' : World) : Prop := ∃ A c, e = .returned (.slice A 2 c) ∧ Kd.C k76 w' A 2 p1 ∧ 2 ≤ c ∧ Below w.heap.size w w'
theorem plain_lit (A : Option Addr) (c : Nat) (w w1 : World) (base : Nat) (ok : Nat → Prop) (hA : Kd.N k61 61 w1 base ok (.slice A 2 c) d1) (hb : Below w1.heap.size w1 w) : Calls Try.prog 17 #[.slice A 2 c] w (PPost w) := by
  refine (dioramalaw36_plain.calls 20 ok A c d1 p1 w (Kd.V_below (Kd.N_V hA) hb) e6).mono ?_; rintro e w' ⟨v, rfl, h1, h2⟩; obtain ⟨A, c, rfl, h3, h4⟩ := Kd.N_reads h1; exact ⟨A, c, rfl, h4, h3, h2⟩
theorem all_lit (g : Nat) (A : Option Addr) (c : Nat) (w : World) (hA : Kd.C k76 w A 2 p1) (hc : 2 ≤ c) (hB : Kd.C k76 w (some ⟨g, 0, none⟩) 2 p1) : Calls Try.prog 16 #[.slice A 2 c, .slice (some ⟨g, 0, none⟩) 2 2] w fun e w' => e = .returned (.bool true) ∧ Below w.heap.size w w' :=
  dioramaref36_SameAll.calls 20 A c p1 (some ⟨g, 0, none⟩) 2 p1 true w hA hc hB (by decide) e7
theorem want {W : World} {g g85 : Nat} (h : W.heap[g]? = some (.cells #[.int .i64 0, .int .i64 0, .int .i64 1, .int .i64 2, .int .i64 5, .slice none 0 0, .int .i64 0, .int .i64 2, .int .i64 (-1), .int .i64 0, .int .i64 0, .slice (some ⟨g85, 0, none⟩) 2 2] 76 (0, 0))) (h85 : Kd.C (Kd.int .i64) W (some ⟨g85, 0, none⟩) 2 [6, 7]) : Kd.C k76 W (some ⟨g, 0, none⟩) 2 p1 :=
  lit_row h (by decide) ⟨rfl, fun j p hj => by
    rcases j with _ | _ | j
    (· obtain rfl := Option.some.inj hj; exact k76_mk W ⟨0, 0, 1, 2, 5, []⟩ (A5 := none) (c5 := 0) (by decide) ⟨rfl, by decide, fun h => absurd h (by decide)⟩); (· obtain rfl := Option.some.inj hj; exact k76_mk W ⟨0, 2, -1, 0, 0, [6, 7]⟩ (A5 := some ⟨g85, 0, none⟩) (c5 := 2) (by decide) h85)
    · simp [p1] at hj⟩
set_option maxHeartbeats 4000000 in
set_option maxRecDepth 100000 in
theorem calls (w0 : World) : Calls Try.prog 18 #[] w0 fun e w' => e = .returned (.bool true) ∧ Below w0.heap.size w0 w' := by
  have hu61 := Try.underlying61; have hu76 := Try.underlying76
  go_enter Try.func18, Try.ntmps18
  go_upto_region 2 with (first
    | ((with_reducible refine gate_dst (N := 12) rfl ?_); refine lit_event ?hg (N := 12) ?hd (cs := #[.int .i64 1, .int .i64 2]) (t := 3) (n := 2) ?hr ?_; (case hd => rfl); (case hg => rfl); (case hr => first | (go_simp; done) | (go_simp; rfl)); intro g12 hgx w1 hbk hb; clear hgx; have B1 := Aside0.mk hb; have F12 : Aside0 (Kd.C (Kd.int .i64) w1 (some ⟨g12, 0, none⟩) 2 [1, 2]) := ⟨lit3 hbk (by decide) ⟨rfl, rfl, trivial⟩⟩; clear hb hbk)
    | ((with_reducible refine gate_dst (N := 13) rfl ?_); refine lit_event ?hg (N := 13) ?hd (cs := #[.int .i64 3, .int .i64 4]) (t := 3) (n := 2) ?hr ?_; (case hd => rfl); (case hg => rfl); (case hr => first | (go_simp; done) | (go_simp; rfl)); intro g13 hgx w2 hbk hb; clear hgx; have B2 := Aside0.mk hb; have F13 : Aside0 (Kd.C (Kd.int .i64) w2 (some ⟨g13, 0, none⟩) 2 [3, 4]) := ⟨lit3 hbk (by decide) ⟨rfl, rfl, trivial⟩⟩; clear hb hbk)
    | ((with_reducible refine gate_dst (N := 14) rfl ?_); refine lit_event ?hg (N := 14) ?hd (cs := #[.slice (some ⟨g12, 0, none⟩) 2 2, .slice (some ⟨g13, 0, none⟩) 2 2]) (t := 22) (n := 2) ?hr ?_; (case hd => rfl); (case hg => rfl); (case hr => first | (go_simp; done) | (go_simp; rfl)); intro g14 hgx w3 hbk hb; clear hgx; have B3 := Aside0.mk hb; have F14 : Aside0 (Kd.C (Kd.slice 3 (Kd.int .i64)) w3 (some ⟨g14, 0, none⟩) 2 [[1, 2], [3, 4]]) := ⟨litS hbk (by decide) ⟨⟨_, _, rfl, by decide, Kd.C_below F12.out (below_step (below_step (Below.refl _ _) B2.out) B3.out)⟩, ⟨_, _, rfl, by decide, Kd.C_below F13.out (below_step (Below.refl _ _) B3.out)⟩, trivial⟩⟩; clear hb hbk)
    | ((with_reducible refine gate_dst (N := 15) rfl ?_); refine lit_event ?hg (N := 15) ?hd (cs := #[.slice (some ⟨g14, 0, none⟩) 2 2]) (t := 64) (n := 1) ?hr ?_; (case hd => rfl); (case hg => rfl); (case hr => first | (go_simp; done) | (go_simp; rfl)); intro g15 hgx w4 hbk hb; clear hgx; have B4 := Aside0.mk hb; have F15 : Aside0 (Kd.C (Kd.slice 22 (Kd.slice 3 (Kd.int .i64))) w4 (some ⟨g15, 0, none⟩) 1 la) := ⟨litS hbk (by decide) ⟨⟨_, _, rfl, by decide, Kd.C_below F14.out (below_step (Below.refl _ _) B4.out)⟩, trivial⟩⟩; clear hb hbk))
  go_upto_region 3 with (first
    | ((with_reducible refine gate_dst (N := 16) rfl ?_); refine lit_event ?hg (N := 16) ?hd (cs := #[.int .i64 1, .int .i64 5]) (t := 3) (n := 2) ?hr ?_; (case hd => rfl); (case hg => rfl); (case hr => first | (go_simp; done) | (go_simp; rfl)); intro g16 hgx w5 hbk hb; clear hgx; have B5 := Aside0.mk hb; have F16 : Aside0 (Kd.C (Kd.int .i64) w5 (some ⟨g16, 0, none⟩) 2 [1, 5]) := ⟨lit3 hbk (by decide) ⟨rfl, rfl, trivial⟩⟩; clear hb hbk)
    | ((with_reducible refine gate_dst (N := 17) rfl ?_); refine lit_event ?hg (N := 17) ?hd (cs := #[.int .i64 3, .int .i64 4]) (t := 3) (n := 2) ?hr ?_; (case hd => rfl); (case hg => rfl); (case hr => first | (go_simp; done) | (go_simp; rfl)); intro g17 hgx w6 hbk hb; clear hgx; have B6 := Aside0.mk hb; have F17 : Aside0 (Kd.C (Kd.int .i64) w6 (some ⟨g17, 0, none⟩) 2 [3, 4]) := ⟨lit3 hbk (by decide) ⟨rfl, rfl, trivial⟩⟩; clear hb hbk)
    | ((with_reducible refine gate_dst (N := 18) rfl ?_); refine lit_event ?hg (N := 18) ?hd (cs := #[.int .i64 6, .int .i64 7]) (t := 3) (n := 2) ?hr ?_; (case hd => rfl); (case hg => rfl); (case hr => first | (go_simp; done) | (go_simp; rfl)); intro g18 hgx w7 hbk hb; clear hgx; have B7 := Aside0.mk hb; have F18 : Aside0 (Kd.C (Kd.int .i64) w7 (some ⟨g18, 0, none⟩) 2 [6, 7]) := ⟨lit3 hbk (by decide) ⟨rfl, rfl, trivial⟩⟩; clear hb hbk)
    | ((with_reducible refine gate_dst (N := 19) rfl ?_); refine lit_event ?hg (N := 19) ?hd (cs := #[.slice (some ⟨g16, 0, none⟩) 2 2, .slice (some ⟨g17, 0, none⟩) 2 2, .slice (some ⟨g18, 0, none⟩) 2 2]) (t := 22) (n := 3) ?hr ?_; (case hd => rfl); (case hg => rfl); (case hr => first | (go_simp; done) | (go_simp; rfl)); intro g19 hgx w8 hbk hb; clear hgx; have B8 := Aside0.mk hb; have F19 : Aside0 (Kd.C (Kd.slice 3 (Kd.int .i64)) w8 (some ⟨g19, 0, none⟩) 3 [[1, 5], [3, 4], [6, 7]]) := ⟨litS hbk (by decide) ⟨⟨_, _, rfl, by decide, Kd.C_below F16.out (below_step (below_step (below_step (Below.refl _ _) B6.out) B7.out) B8.out)⟩, ⟨_, _, rfl, by decide, Kd.C_below F17.out (below_step (below_step (Below.refl _ _) B7.out) B8.out)⟩, ⟨_, _, rfl, by decide, Kd.C_below F18.out (below_step (Below.refl _ _) B8.out)⟩, trivial⟩⟩; clear hb hbk)
    | ((with_reducible refine gate_dst (N := 20) rfl ?_); refine lit_event ?hg (N := 20) ?hd (cs := #[.slice (some ⟨g19, 0, none⟩) 3 3]) (t := 64) (n := 1) ?hr ?_; (case hd => rfl); (case hg => rfl); (case hr => first | (go_simp; done) | (go_simp; rfl)); intro g20 hgx w9 hbk hb; clear hgx; have B9 := Aside0.mk hb; have F20 : Aside0 (Kd.C (Kd.slice 22 (Kd.slice 3 (Kd.int .i64))) w9 (some ⟨g20, 0, none⟩) 1 lb) := ⟨litS hbk (by decide) ⟨⟨_, _, rfl, by decide, Kd.C_below F19.out (below_step (Below.refl _ _) B9.out)⟩, trivial⟩⟩; clear hb hbk))
  go_upto_region 4 with (first
    | (go_at_call 14; refine (diff_lit (la := la) (lb := lb) (d := d1) (n := 2) g15 g20 w9 rfl rfl rfl e1 ?x1 ?x2).mono ?_; (case x1 => exact Kd.C_below F15.out (below_step (below_step (below_step (below_step (below_step (Below.refl _ _) B5.out) B6.out) B7.out) B8.out) B9.out)); (case x2 => exact Kd.C_below F20.out (Below.refl _ _)); rintro e w10 ⟨AX, cX, rfl, hn, hb⟩; have B10 := Aside0.mk hb; have NX := Aside0.mk hn; clear hb hn))
  go_upto_region 5 with (first
    | (go_at_call 19; refine (apply_lit g15 AX cX w10 ?x1 ?x2 ?x3).mono ?_; (case x1 => exact Kd.C_below F15.out (below_step (below_step (below_step (below_step (below_step (below_step (Below.refl _ _) B5.out) B6.out) B7.out) B8.out) B9.out) B10.out)); (case x2 => exact (Kd.N_reads' NX.out).2.2); (case x3 => exact (Kd.N_reads' NX.out).2.1); rintro e w11 ⟨AY, cY, rfl, hn, hcY, hb⟩; have B11 := Aside0.mk hb; have NY := Aside0.mk hn; have CY := Aside0.mk hcY; clear hb hn hcY))
  go_upto_region 6 with (first
    | ((with_reducible refine gate_dst (N := 35) rfl ?_); refine lit_event ?hg (N := 35) ?hd (cs := #[.int .i64 1, .int .i64 2]) (t := 3) (n := 2) ?hr ?_; (case hd => rfl); (case hg => rfl); (case hr => first | (go_simp; done) | (go_simp; rfl)); intro g35 hgx w12 hbk hb; clear hgx; have B12 := Aside0.mk hb; have F35 : Aside0 (Kd.C (Kd.int .i64) w12 (some ⟨g35, 0, none⟩) 2 [1, 2]) := ⟨lit3 hbk (by decide) ⟨rfl, rfl, trivial⟩⟩; clear hb hbk)
    | ((with_reducible refine gate_dst (N := 36) rfl ?_); refine lit_event ?hg (N := 36) ?hd (cs := #[.int .i64 5, .int .i64 6]) (t := 3) (n := 2) ?hr ?_; (case hd => rfl); (case hg => rfl); (case hr => first | (go_simp; done) | (go_simp; rfl)); intro g36 hgx w13 hbk hb; clear hgx; have B13 := Aside0.mk hb; have F36 : Aside0 (Kd.C (Kd.int .i64) w13 (some ⟨g36, 0, none⟩) 2 [5, 6]) := ⟨lit3 hbk (by decide) ⟨rfl, rfl, trivial⟩⟩; clear hb hbk)
    | ((with_reducible refine gate_dst (N := 37) rfl ?_); refine lit_event ?hg (N := 37) ?hd (cs := #[.slice (some ⟨g35, 0, none⟩) 2 2, .slice (some ⟨g36, 0, none⟩) 2 2]) (t := 22) (n := 2) ?hr ?_; (case hd => rfl); (case hg => rfl); (case hr => first | (go_simp; done) | (go_simp; rfl)); intro g37 hgx w14 hbk hb; clear hgx; have B14 := Aside0.mk hb; have F37 : Aside0 (Kd.C (Kd.slice 3 (Kd.int .i64)) w14 (some ⟨g37, 0, none⟩) 2 [[1, 2], [5, 6]]) := ⟨litS hbk (by decide) ⟨⟨_, _, rfl, by decide, Kd.C_below F35.out (below_step (below_step (Below.refl _ _) B13.out) B14.out)⟩, ⟨_, _, rfl, by decide, Kd.C_below F36.out (below_step (Below.refl _ _) B14.out)⟩, trivial⟩⟩; clear hb hbk)
    | ((with_reducible refine gate_dst (N := 38) rfl ?_); refine lit_event ?hg (N := 38) ?hd (cs := #[.slice (some ⟨g37, 0, none⟩) 2 2]) (t := 64) (n := 1) ?hr ?_; (case hd => rfl); (case hg => rfl); (case hr => first | (go_simp; done) | (go_simp; rfl)); intro g38 hgx w15 hbk hb; clear hgx; have B15 := Aside0.mk hb; have F38 : Aside0 (Kd.C (Kd.slice 22 (Kd.slice 3 (Kd.int .i64))) w15 (some ⟨g38, 0, none⟩) 1 lc) := ⟨litS hbk (by decide) ⟨⟨_, _, rfl, by decide, Kd.C_below F37.out (below_step (Below.refl _ _) B15.out)⟩, trivial⟩⟩; clear hb hbk)
    | (go_at_call 14; refine (diff_lit (la := la) (lb := lc) (d := d2) (n := 2) g15 g38 w15 rfl rfl rfl e2 ?x1 ?x2).mono ?_; (case x1 => exact Kd.C_below F15.out (below_step (below_step (below_step (below_step (below_step (below_step (below_step (below_step (below_step (below_step (below_step (Below.refl _ _) B5.out) B6.out) B7.out) B8.out) B9.out) B10.out) B11.out) B12.out) B13.out) B14.out) B15.out)); (case x2 => exact Kd.C_below F38.out (Below.refl _ _)); rintro e w16 ⟨AM, cM, rfl, hn, hb⟩; have B16 := Aside0.mk hb; have NM := Aside0.mk hn; clear hb hn))
  go_upto_region 7 with (first
    | ((with_reducible refine gate_dst (N := 43) rfl ?_); refine lit_event ?hg (N := 43) ?hd (cs := #[.int .i64 1, .int .i64 2, .int .i64 3]) (t := 3) (n := 3) ?hr ?_; (case hd => rfl); (case hg => rfl); (case hr => first | (go_simp; done) | (go_simp; rfl)); intro g43 hgx w17 hbk hb; clear hgx; have B17 := Aside0.mk hb; have F43 : Aside0 (Kd.C (Kd.int .i64) w17 (some ⟨g43, 0, none⟩) 3 [1, 2, 3]) := ⟨lit3 hbk (by decide) ⟨rfl, rfl, rfl, trivial⟩⟩; clear hb hbk)
    | ((with_reducible refine gate_dst (N := 44) rfl ?_); refine lit_event ?hg (N := 44) ?hd (cs := #[.int .i64 4, .int .i64 5, .int .i64 6]) (t := 3) (n := 3) ?hr ?_; (case hd => rfl); (case hg => rfl); (case hr => first | (go_simp; done) | (go_simp; rfl)); intro g44 hgx w18 hbk hb; clear hgx; have B18 := Aside0.mk hb; have F44 : Aside0 (Kd.C (Kd.int .i64) w18 (some ⟨g44, 0, none⟩) 3 [4, 5, 6]) := ⟨lit3 hbk (by decide) ⟨rfl, rfl, rfl, trivial⟩⟩; clear hb hbk)
    | ((with_reducible refine gate_dst (N := 45) rfl ?_); refine lit_event ?hg (N := 45) ?hd (cs := #[.slice (some ⟨g43, 0, none⟩) 3 3, .slice (some ⟨g44, 0, none⟩) 3 3]) (t := 22) (n := 2) ?hr ?_; (case hd => rfl); (case hg => rfl); (case hr => first | (go_simp; done) | (go_simp; rfl)); intro g45 hgx w19 hbk hb; clear hgx; have B19 := Aside0.mk hb; have F45 : Aside0 (Kd.C (Kd.slice 3 (Kd.int .i64)) w19 (some ⟨g45, 0, none⟩) 2 [[1, 2, 3], [4, 5, 6]]) := ⟨litS hbk (by decide) ⟨⟨_, _, rfl, by decide, Kd.C_below F43.out (below_step (below_step (Below.refl _ _) B18.out) B19.out)⟩, ⟨_, _, rfl, by decide, Kd.C_below F44.out (below_step (Below.refl _ _) B19.out)⟩, trivial⟩⟩; clear hb hbk)
    | ((with_reducible refine gate_dst (N := 46) rfl ?_); refine lit_event ?hg (N := 46) ?hd (cs := #[.slice (some ⟨g45, 0, none⟩) 2 2]) (t := 64) (n := 1) ?hr ?_; (case hd => rfl); (case hg => rfl); (case hr => first | (go_simp; done) | (go_simp; rfl)); intro g46 hgx w20 hbk hb; clear hgx; have B20 := Aside0.mk hb; have F46 : Aside0 (Kd.C (Kd.slice 22 (Kd.slice 3 (Kd.int .i64))) w20 (some ⟨g46, 0, none⟩) 1 ld) := ⟨litS hbk (by decide) ⟨⟨_, _, rfl, by decide, Kd.C_below F45.out (below_step (Below.refl _ _) B20.out)⟩, trivial⟩⟩; clear hb hbk)
    | ((with_reducible refine gate_dst (N := 47) rfl ?_); refine lit_event ?hg (N := 47) ?hd (cs := #[.int .i64 1, .int .i64 2, .int .i64 3]) (t := 3) (n := 3) ?hr ?_; (case hd => rfl); (case hg => rfl); (case hr => first | (go_simp; done) | (go_simp; rfl)); intro g47 hgx w21 hbk hb; clear hgx; have B21 := Aside0.mk hb; have F47 : Aside0 (Kd.C (Kd.int .i64) w21 (some ⟨g47, 0, none⟩) 3 [1, 2, 3]) := ⟨lit3 hbk (by decide) ⟨rfl, rfl, rfl, trivial⟩⟩; clear hb hbk)
    | ((with_reducible refine gate_dst (N := 48) rfl ?_); refine lit_event ?hg (N := 48) ?hd (cs := #[.int .i64 7, .int .i64 8, .int .i64 9]) (t := 3) (n := 3) ?hr ?_; (case hd => rfl); (case hg => rfl); (case hr => first | (go_simp; done) | (go_simp; rfl)); intro g48 hgx w22 hbk hb; clear hgx; have B22 := Aside0.mk hb; have F48 : Aside0 (Kd.C (Kd.int .i64) w22 (some ⟨g48, 0, none⟩) 3 [7, 8, 9]) := ⟨lit3 hbk (by decide) ⟨rfl, rfl, rfl, trivial⟩⟩; clear hb hbk)
    | ((with_reducible refine gate_dst (N := 49) rfl ?_); refine lit_event ?hg (N := 49) ?hd (cs := #[.slice (some ⟨g47, 0, none⟩) 3 3, .slice (some ⟨g48, 0, none⟩) 3 3]) (t := 22) (n := 2) ?hr ?_; (case hd => rfl); (case hg => rfl); (case hr => first | (go_simp; done) | (go_simp; rfl)); intro g49 hgx w23 hbk hb; clear hgx; have B23 := Aside0.mk hb; have F49 : Aside0 (Kd.C (Kd.slice 3 (Kd.int .i64)) w23 (some ⟨g49, 0, none⟩) 2 [[1, 2, 3], [7, 8, 9]]) := ⟨litS hbk (by decide) ⟨⟨_, _, rfl, by decide, Kd.C_below F47.out (below_step (below_step (Below.refl _ _) B22.out) B23.out)⟩, ⟨_, _, rfl, by decide, Kd.C_below F48.out (below_step (Below.refl _ _) B23.out)⟩, trivial⟩⟩; clear hb hbk)
    | ((with_reducible refine gate_dst (N := 50) rfl ?_); refine lit_event ?hg (N := 50) ?hd (cs := #[.slice (some ⟨g49, 0, none⟩) 2 2]) (t := 64) (n := 1) ?hr ?_; (case hd => rfl); (case hg => rfl); (case hr => first | (go_simp; done) | (go_simp; rfl)); intro g50 hgx w24 hbk hb; clear hgx; have B24 := Aside0.mk hb; have F50 : Aside0 (Kd.C (Kd.slice 22 (Kd.slice 3 (Kd.int .i64))) w24 (some ⟨g50, 0, none⟩) 1 le) := ⟨litS hbk (by decide) ⟨⟨_, _, rfl, by decide, Kd.C_below F49.out (below_step (Below.refl _ _) B24.out)⟩, trivial⟩⟩; clear hb hbk)
    | (go_at_call 14; refine (diff_lit (la := ld) (lb := le) (d := d3) (n := 2) g46 g50 w24 rfl rfl rfl e3 ?x1 ?x2).mono ?_; (case x1 => exact Kd.C_below F46.out (below_step (below_step (below_step (below_step (Below.refl _ _) B21.out) B22.out) B23.out) B24.out)); (case x2 => exact Kd.C_below F50.out (Below.refl _ _)); rintro e w25 ⟨AK, cK, rfl, hn, hb⟩; have B25 := Aside0.mk hb; have NK := Aside0.mk hn; clear hb hn))
  obtain ⟨hmn, hmc, hmC⟩ := Kd.N_reads' NM.out; obtain ⟨hkn, hkc, hkC⟩ := Kd.N_reads' NK.out; obtain ⟨adM, _, _, eM, _, _, m0, _, _, _, _, _⟩ := at_T61 hmC 0 (by decide) (by decide); obtain ⟨adM', _, _, eM', _, _, m1, _, _, _, _, _⟩ := at_T61 hmC 1 (by decide) (by decide); obtain ⟨adK, _, _, eK, _, _, k0, _, _, _, _, _⟩ := at_T61 hkC 0 (by decide) (by decide); obtain ⟨adK', _, _, eK', _, _, k1, _, _, _, _, _⟩ := at_T61 hkC 1 (by decide) (by decide)
  cases eM
  cases eM'
  cases eK
  cases eK'
  have M0 := Aside0.mk (show w16.cell? ⟨adM.block, adM.off + 2, none⟩ = some (.int .i64 0) by rw [show (0 : Int).toNat * 6 = 0 from rfl, Addr.add_zero'] at m0; exact m0); have M1 := Aside0.mk (show w16.cell? ⟨adM.block, adM.off + 6 + 2, none⟩ = some (.int .i64 1) by (have h : adM.add ((1 : Int).toNat * 6) = ⟨adM.block, adM.off + 6, none⟩ := by simp [Addr.add]); rw [h] at m1; exact m1); have K0 := Aside0.mk (show w25.cell? ⟨adK.block, adK.off + 2, none⟩ = some (.int .i64 (-2)) by rw [show (0 : Int).toNat * 6 = 0 from rfl, Addr.add_zero'] at k0; exact k0); have K1 := Aside0.mk (show w25.cell? ⟨adK.block, adK.off + 6 + 2, none⟩ = some (.int .i64 (-1)) by (have h : adK.add ((1 : Int).toNat * 6) = ⟨adK.block, adK.off + 6, none⟩ := by simp [Addr.add]); rw [h] at k1; exact k1); clear hmn hmc hmC hkn hkc hkC m0 m1 k0 k1
  go_upto_region 10 with (first
    | (go_at_call 21; refine (same_lit g20 AY cY w25 ?x1 CY.out ?x3).mono ?_; (case x1 => exact Kd.C_below NY.out (below_step (below_step (below_step (below_step (below_step (below_step (below_step (below_step (below_step (below_step (below_step (below_step (below_step (below_step (Below.refl _ _) B12.out) B13.out) B14.out) B15.out) B16.out) B17.out) B18.out) B19.out) B20.out) B21.out) B22.out) B23.out) B24.out) B25.out)); (case x3 => exact Kd.C_below F20.out (below_step (below_step (below_step (below_step (below_step (below_step (below_step (below_step (below_step (below_step (below_step (below_step (below_step (below_step (below_step (below_step (Below.refl _ _) B10.out) B11.out) B12.out) B13.out) B14.out) B15.out) B16.out) B17.out) B18.out) B19.out) B20.out) B21.out) B22.out) B23.out) B24.out) B25.out)); rintro e w26 ⟨rfl, hd⟩; have B26 := Aside0.mk hd.below; clear hd)
    | ((with_reducible refine gate_dst (N := 85) rfl ?_); refine lit_event ?hg (N := 85) ?hd (cs := #[.int .i64 6, .int .i64 7]) (t := 3) (n := 2) ?hr ?_; (case hd => rfl); (case hg => rfl); (case hr => first | (go_simp; done) | (go_simp; rfl)); intro g85 hgx w27 hbk hb; clear hgx; have B27 := Aside0.mk hb; have F85 : Aside0 (Kd.C (Kd.int .i64) w27 (some ⟨g85, 0, none⟩) 2 [6, 7]) := ⟨lit3 hbk (by decide) ⟨rfl, rfl, trivial⟩⟩; clear hb hbk)
    | ((with_reducible refine gate_dst (N := 87) rfl ?_); refine lit_event ?hg (N := 87) ?hd (cs := #[.int .i64 0, .int .i64 0, .int .i64 1, .int .i64 2, .int .i64 5, .slice none 0 0, .int .i64 0, .int .i64 2, .int .i64 (-1), .int .i64 0, .int .i64 0, .slice (some ⟨g85, 0, none⟩) 2 2]) (t := 76) (n := 2) ?hr ?_; (case hd => rfl); (case hg => rfl); (case hr => first | (go_simp; done) | (go_simp; rfl)); intro g87 hgx w28 hbk hb; clear hgx; have B28 := Aside0.mk hb; have F87 : Aside0 (Kd.C k76 w28 (some ⟨g87, 0, none⟩) 2 p1) := ⟨want hbk (Kd.C_below F85.out (below_step (Below.refl _ _) B28.out))⟩; clear hb hbk))
  go_wp2_with (first
    | (go_at_call 17; refine (plain_lit AX cX w28 w10 _ _ NX.out (below_step (below_step (below_step (below_step (below_step (below_step (below_step (below_step (below_step (below_step (below_step (below_step (below_step (below_step (below_step (below_step (below_step (below_step (Below.refl _ _) B11.out) B12.out) B13.out) B14.out) B15.out) B16.out) B17.out) B18.out) B19.out) B20.out) B21.out) B22.out) B23.out) B24.out) B25.out) B26.out) B27.out) B28.out)).mono ?_; rintro e w29 ⟨AZ, cZ, rfl, hn, hcZ, hb⟩; have B29 := Aside0.mk hb; have NZ := Aside0.mk hn; have CZ := Aside0.mk hcZ; clear hb hn hcZ)
    | (go_at_call 16; refine (all_lit g87 AZ cZ w29 NZ.out CZ.out ?x3).mono ?_; (case x3 => exact Kd.C_below F87.out (below_step (Below.refl _ _) B29.out)); rintro e w30 ⟨rfl, hb⟩; have B30 := Aside0.mk hb; clear hb; have hm0 := cell_below (below_step (below_step (below_step (below_step (below_step (below_step (below_step (below_step (below_step (below_step (below_step (below_step (below_step (below_step (Below.refl _ _) B17.out) B18.out) B19.out) B20.out) B21.out) B22.out) B23.out) B24.out) B25.out) B26.out) B27.out) B28.out) B29.out) B30.out) M0.out; have hm1 := cell_below (below_step (below_step (below_step (below_step (below_step (below_step (below_step (below_step (below_step (below_step (below_step (below_step (below_step (below_step (Below.refl _ _) B17.out) B18.out) B19.out) B20.out) B21.out) B22.out) B23.out) B24.out) B25.out) B26.out) B27.out) B28.out) B29.out) B30.out) M1.out; have hk0 := cell_below (below_step (below_step (below_step (below_step (below_step (Below.refl _ _) B26.out) B27.out) B28.out) B29.out) B30.out) K0.out; have hk1 := cell_below (below_step (below_step (below_step (below_step (below_step (Below.refl _ _) B26.out) B27.out) B28.out) B29.out) B30.out) K1.out))
  go_ret; exact ⟨rfl, (below_step (below_step (below_step (below_step (below_step (below_step (below_step (below_step (below_step (below_step (below_step (below_step (below_step (below_step (below_step (below_step (below_step (below_step (below_step (below_step (below_step (below_step (below_step (below_step (below_step (below_step (below_step (below_step (below_step (below_step (Below.refl _ _) B1.out) B2.out) B3.out) B4.out) B5.out) B6.out) B7.out) B8.out) B9.out) B10.out) B11.out) B12.out) B13.out) B14.out) B15.out) B16.out) B17.out) B18.out) B19.out) B20.out) B21.out) B22.out) B23.out) B24.out) B25.out) B26.out) B27.out) B28.out) B29.out) B30.out)⟩
end Lives
def dioramalaw36_lives.f : Option Bool := some true
theorem dioramalaw36_lives.calls (r : Bool) (w : World) (h : dioramalaw36_lives.f = some r) : Calls Try.prog 18 #[] w fun e w' => e = .returned (.bool r) ∧ Below w.heap.size w w' := by
  obtain rfl := Option.some.inj h; exact Lives.calls w
end Go.Proofs.Ytcgpemefmakjiaa.PX
namespace Go.Proofs.Ytcgpemefmakjiaa.Iter
open Go.RowKit
def IteratesI {α : Type} (F : Fence) (n : Nat) (P : Program) (gf : Nat) (lb : Array Value) (enc : α → Array Value) (T : α → World → Prop) (S : List α → World → Prop) (N : Nat) (B : Nat) (ts tI : List Nat) (H : World → Prop) (l : Nat) (W1 : World) : Prop :=
  ∀ J : List α → World → Prop, (∀ s A, J s A → H A) → (∀ s A C, J s A → StepC W1.heap.size tI A C → J s C) →
    (∀ pre x W, J pre W → pre.length < N → T x W → YieldAt F (n - 1) P l (enc x) W fun e W' => e = .returned (.bool true) ∧ J (pre ++ [x]) W' ∧ KeepIter B ts W W') →
    J [] W1 → CallsIn F n P gf (#[.func (.yield l) #[] #[]] ++ lb) W1 fun e W' => (∃ v, e = .returned v) ∧ ∃ xs, S xs W' ∧ J xs W'
variable {F : Fence} {n : Nat} {P : Program}
theorem wpIn_range_onI {α : Type} {g : Operand} {ps : Array Tmp} {assign body : Code} {Q : Exit → Act → World → Prop} {a : Act} {w : World}
    (hro : F.round = none) (h1 : 1 ≤ n) {gf : Nat} {lb : Array Value} (hg : a.eval g = .func (.func gf) #[] lb) (hFg : F.fn gf) (eg : ∀ args w, (callFunc gf args).run P w = .ok (.enter gf args) w)
    {enc : α → Array Value} {T : α → World → Prop} {S : List α → World → Prop} {N : Nat} {B : Nat} {ts tI : List Nat} {H : World → Prop} (hB : B ≤ w.heap.size)
    (hiter : ∀ L, IteratesI F (n - 1) P gf lb enc T S N B ts tI H (w.heap.size + 1) ((w.alloc (.deferred (some []))).alloc (.loop L)))
    (hps : ∀ x, (enc x).size = ps.size)
    (I : List α → World → Prop) (Ax : α → Act → World → Prop) (hIH : ∀ s A, I s A → H A)
    (hI : ∀ s A C, I s A → StepI w.heap.size tI A C → I s C) (hT : ∀ x A C, T x A → StepI w.heap.size tI A C → T x C) (hS : ∀ s A C, S s A → StepI w.heap.size tI A C → S s C) (hAx : ∀ x a A C, Ax x a A → StepI w.heap.size tI A C → Ax x a C)
    (h0 : I [] w)
    (hassign : ∀ (l : Nat) (pre : List α) (x : α) (W : World) (K : Act → World → Prop), I pre W → T x W → (∀ a1 W1, KeepBody B ts W W1 → I pre W1 → T x W1 → Ax x a1 W1 → K a1 W1) →
      assign.wpIn (F.inRound l) (n - 1 - 1) P (Exit.then K (fun _ _ _ => False)) { tmps := (ps.zip (enc x)).foldl (fun t (p, v) => t.setIfInBounds p v) a.tmps, defers := [] } W)
    (hbody : ∀ (l : Nat) (pre : List α) (x : α) (a1 : Act) (W : World), I pre W → pre.length < N → T x W → Ax x a1 W → body.wpIn (F.inRound l) (n - 1 - 1) P (onPost B ts W (I (pre ++ [x]))) a1 W)
    (hdone : ∀ (D : Nat) (xs : List α) (W : World), w.heap.size ≤ D → S xs W → I xs W → W.heap[D]? = some (.deferred (some [])) → Q .normal { a with defers := { target := .collected D, args := #[] } :: a.defers } W) :
    (Code.rangeFunc g ps assign body).wpIn F n P Q a w := by
  refine wpIn_rangeFunc ?_; intro fn hfn; rw [hro]
  obtain ⟨rec, hrec⟩ : ∃ rec : LoopState → Option Code → Loop, rec = fun st pe => { state := st, pending := pe, fn, tmps := a.tmps, params := ps, assign, body, defers := w.heap.size } := ⟨_, rfl⟩
  have hit := hiter (rec .ready none); obtain ⟨W1, hW1⟩ : ∃ W1, (w.alloc (.deferred (some []))).alloc (.loop (rec .ready none)) = W1 := ⟨_, rfl⟩; rw [hW1] at hit
  have hsz : W1.heap.size = w.heap.size + 2 := by rw [← hW1]; simp
  have hL1 : W1.heap[w.heap.size + 1]? = some (.loop (rec .ready none)) := by
    rw [← hW1]; have := World.alloc_heap_new (w.alloc (.deferred (some []))) (.loop (rec .ready none)); rwa [World.size_alloc] at this
  have hK1 : W1.heap[w.heap.size]? = some (.deferred (some [])) := by
    rw [← hW1]; exact (Below.heap_alloc _ _ _ (by simp)).trans (World.alloc_heap_new w _)
  have hI1 : I [] W1 := by rw [← hW1]; exact hI _ _ _ (hI _ _ _ h0 (StepI.alloc _ _ _ _)) (StepI.alloc _ _ _ _)
  refine ⟨w.heap.size + 1, [{ target := .collected w.heap.size, args := #[] }], W1, { target := .fn (.func gf) lb, args := #[.func (.yield (w.heap.size + 1)) #[] #[]] }, W1, gf,
    #[.func (.yield (w.heap.size + 1)) #[] #[]] ++ lb, W1, ?_, ?_, ?_, ?_, fun _ => h1, ?_⟩
  (· rw [← hW1, hrec]; exact run_enterLoop_outer _ _ _ _ _)
  · simp only [resolve, hg]
    simp [go_sem]
  (· intro f' hf'; simp [Target.leads] at hf'; subst hf'; exact hFg)
  · simp [invoke, go_sem, eg]
  · refine (hit (fun pre W => I pre W ∧ W.heap[w.heap.size + 1]? = some (.loop (rec .ready none)) ∧ W.heap[w.heap.size]? = some (.deferred (some []))) (fun s A hs => hIH s A hs.1)
      (fun s A C hs hst => ⟨hI s A C hs.1 (hst.i (by omega)), hst.nocells hs.2.1 rfl, hst.nocells hs.2.2 rfl⟩) ?_ ⟨hI1, hL1, hK1⟩).mono ?_
    · rintro pre x W ⟨hi, hl, hk⟩ hlen ht
      have hlt : w.heap.size + 1 < W.heap.size := (Array.getElem?_eq_some_iff.1 hl).1; have hy := run_yield (P := P) (args := enc x) hl (by rw [hrec]; exact hps x); rw [hrec] at hy; refine ⟨fn, _, assign, body, hy, roundIn_of_wpIn hfn (hassign _ pre x W _ hi ht (fun a1 W2 hkb hi2 ht2 hax => ?_))⟩; have hl2 : W2.heap[w.heap.size + 1]? = some (.loop (rec .ready none)) := hkb.same _ _ hl (.inr (.inl rfl)); have hk2 : W2.heap[w.heap.size]? = some (.deferred (some [])) := hkb.same _ _ hk (.inr (.inl rfl)); have hlt2 : w.heap.size + 1 < W2.heap.size := (Array.getElem?_eq_some_iff.1 hl2).1; refine ⟨_, run_beginRound hl2 (by rw [hrec]), ?_⟩; obtain ⟨W3, hW3⟩ : ∃ W3, W2.putObj (w.heap.size + 1) (.loop { rec .ready none with state := .busy }) = W3 := ⟨_, rfl⟩
      have hst : StepI w.heap.size tI W2 W3 := by rw [← hW3]; exact StepI.putObj _ (by omega) hl2 rfl
      have hl3 : W3.heap[w.heap.size + 1]? = some (.loop { rec .ready none with state := .busy }) := by rw [← hW3]; exact World.putObj_heap_same hlt2
      have hk3 : W3.heap[w.heap.size]? = some (.deferred (some [])) := by rw [← hW3]; exact (World.putObj_heap_other (by omega)).trans hk2
      have hw3 : KeepIter B ts W2 W3 := by rw [← hW3]; exact KeepIter.putObj _ (by omega) hl2 rfl
      rw [hW3]; refine wpIn_mono (hbody _ pre x a1 W3 (hI _ _ _ hi2 hst) hlen (hT _ _ _ ht2 hst) (hAx _ _ _ _ hax hst)) ?_; rintro e a3 W4 hp
      cases e with
      | normal =>
        obtain ⟨hkb4, hi4⟩ := hp; have hl4 := hkb4.same _ _ hl3 (.inr (.inl rfl)); have hk4 := hkb4.same _ _ hk3 (.inr (.inl rfl)); have hr := run_endRound (P := P) none hl4; refine ⟨_, _, hr, rfl, ⟨hI _ _ _ hi4 (StepI.putObj _ (by omega) hl4 rfl), ?_, (World.putObj_heap_other (by omega)).trans hk4⟩, ((hkb.iter.trans hw3).trans hkb4.iter).trans (KeepIter.putObj _ (by omega) hl4 rfl)⟩; rw [hrec]; exact World.putObj_heap_same (Array.getElem?_eq_some_iff.1 hl4).1
      | ret => exact hp.elim
      | exit id => exact hp.elim
      | goto t => exact hp.elim
      | panic ch => exact hp.elim
      | outgrown => exact hp.elim
    · rintro e W2 ⟨⟨v, rfl⟩, xs, hs, hi, hl, hk⟩
      have hst : ∀ o', StepI w.heap.size tI W2 (W2.putObj (w.heap.size + 1) o') := fun o' => StepI.putObj _ (by omega) hl rfl
      exact ⟨none, _, by have := run_endLoop (P := P) hl (by rw [hrec]; simp); rw [hrec] at this; exact this, hdone _ xs _ (Nat.le_refl _) (hS _ _ _ hs (hst _)) (hI _ _ _ hi (hst _)) ((World.putObj_heap_other (by omega)).trans hk)⟩
end Go.Proofs.Ytcgpemefmakjiaa.Iter
namespace Go.Proofs.Ytcgpemefmakjiaa.PX
open Go.RowKit Go.Shelf Go.Proofs.Ytcgpemefmakjiaa.Iter Go.Proofs.YtcgpemefmakjiaaW.PrintWords Go.Proofs.YtcgpemefmakjiaaW.PrintLast Go.Proofs.YtcgpemefmakjiaaW.PrintMore
set_option linter.unusedVariables false
set_option linter.unusedSimpArgs false
attribute [local go_sem] Oper.semAt_some
abbrev Bk := Nat × S61 × Value
def Bk.cells (x : Bk) : Array Value := #[.int .i64 x.2.1.f0, .int .i64 x.2.1.f1, .int .i64 x.2.1.f2, .int .i64 x.2.1.f3, .int .i64 x.2.1.f4, x.2.2]
def Bk.enc (x : Bk) : Array Value := #[.int .i64 x.1, .agg x.cells]
def Bk.T (w0 : World) (xs : List S61) (x : Bk) (_ : World) : Prop := x.2.1 ∈ xs ∧ ∃ A c, x.2.2 = .slice A x.2.1.f5.length c ∧ x.2.1.f5.length ≤ c ∧ Kd.C (Kd.int .i64) w0 A x.2.1.f5.length x.2.1.f5
set_option maxHeartbeats 400000 in
theorem backward_any (A : Option Addr) (n c : Nat) (w : World) :
    Calls Try.prog 45 #[.slice A n c] w fun e w' => e = .returned (.func (.func 68) #[] #[.pointer (some ⟨w.heap.size, 0, none⟩)]) ∧ w' = w.alloc (.cells #[.slice A n c] 30) := by
  go_enter Try.func45, Try.ntmps45
  go_wp2; go_ret; exact ⟨rfl, rfl⟩
theorem rd_T61_nat' (xs : List S61) (i : Nat) (h : i < xs.length) : rd_T61 xs i = xs[i] := by simp [rd_T61, List.getD_eq_getElem?_getD, h]
set_option maxHeartbeats 2000000 in
set_option maxRecDepth 100000 in
theorem backward1_iterates (n N B : Nat) (ts : List Nat) (w0 W1 : World) (l : Nat) (A : Option Addr) (c : Nat) (xs : List S61) (bl : Nat) (hr : Kd.C k61 w0 A xs.length xs) (hN : xs.length ≤ N) (hlen : xs.length ≤ 1000000) :
    IteratesI Fence.wide n Try.prog 68 #[.pointer (some ⟨bl, 0, none⟩)] Bk.enc (Bk.T w0 xs) (fun ys _ => ys.map (·.2.1) = xs.reverse) N B ts [] (fun W => Below w0.heap.size w0 W ∧ W.heap[bl]? = some (.cells #[.slice A xs.length c] 30 (0, 0))) l W1 := by
  intro J hJH hJ hY h0; have HR := Aside0.mk hr; have HJH := Aside0.mk hJH; have HY := Aside0.mk hY; have HJ0 := Aside0.mk h0; have hcb := cell_of_row _ _ 0 _ 30 (0, 0) (hJH _ _ h0).2; clear hr hJH hJ hY h0; refine callsIn_of_wp Try.func68 rfl trivial ?_ rfl; simp only [Try.ntmps68, List.size_toArray, List.length_cons, List.length_nil, Nat.reduceAdd, Nat.reduceSub, Array.replicate_succ, Array.replicate_zero, List.push_toArray, List.append_toArray, List.nil_append, List.cons_append]
  gi_wp2
  gi_loopw [3] (fun v wr => ∃ (p : Nat) (pre : List Bk), p ≤ xs.length ∧ v = .int .i64 ((p : Int) - 1) ∧ Aside0 (pre.map (·.2.1) = (xs.drop p).reverse) ∧ Aside0 (J pre wr)) (fun v _ => (intOf v + 1).toNat)
  case atStart => exact ⟨xs.length, [], Nat.le_refl _, rfl, ⟨by simp⟩, HJ0⟩
  case round =>
    obtain ⟨p, pre, hp, rfl, HP, HJi⟩ := hrel; clear HJ0 hcb; have hcb := cell_of_row _ _ 0 _ 30 (0, 0) (HJH.out _ _ HJi.out).2
    by_cases hp0 : 0 < p
    · obtain ⟨q, rfl⟩ : ∃ q, p = q + 1 := ⟨p - 1, by omega⟩
      have hcast : (((q + 1 : Nat) : Int) - 1) = (q : Int) := by omega
      rw [hcast]; clear hcast; obtain ⟨ad, A5, c5, e, hx0, hx1, hx2, hx3, hx4, hx5, hl5, hi5⟩ := at_T61 HR.out q (by omega) (by omega)
      cases e
      rw [Int.toNat_natCast] at hx0 hx1 hx2 hx3 hx4 hx5; have hB := (HJH.out _ _ HJi.out).1
      have cb : ∀ {a : Addr} {v : Value}, w0.cell? a = some v → wr.cell? a = some v := fun h => (hB.cell (World.block_lt_of_cell? w0 _ h)).trans h
      replace hx0 := cb hx0; replace hx1 := cb hx1; replace hx2 := cb hx2; replace hx3 := cb hx3; replace hx4 := cb hx4; replace hx5 := cb hx5; have e1 := rd_T61_nat' xs q (by omega); have HSN := Aside0.mk (show (xs.drop q).reverse = (xs.drop (q + 1)).reverse ++ [rd_T61 xs q] by rw [List.drop_eq_getElem_cons (show q < xs.length by omega), List.reverse_cons, e1])
      have HLEN := Aside0.mk (show pre.length < N by
        have e := congrArg List.length HP.out; rw [List.length_map, List.length_reverse, List.length_drop] at e
        omega)
      have HT := Aside0.mk (show Bk.T w0 xs (q, rd_T61 xs q, .slice A5 (rd_T61 xs q).f5.length c5) wr from ⟨by rw [e1]; exact List.getElem_mem _, A5, c5, rfl, hl5, hi5⟩); clear cb hB e1 hl5 hi5; generalize rd_T61 xs (q : Int) = ch at hx0 hx1 hx2 hx3 hx4 hx5 HSN HT; have HYY := Aside0.mk (HY.out pre (q, ch, .slice A5 ch.f5.length c5) wr HJi.out HLEN.out HT.out); obtain ⟨fn, tmps, assign, body, hy, hRR⟩ := yield_any (m' := n - 1) rfl HYY.out; clear HYY; simp only [Bk.enc, Bk.cells] at hy
      gi_wp2
      refine ⟨(fun h => by cases h), hRR.mono ?_⟩; rintro e W3 ⟨rfl, hj2, hk⟩; have HJ2 := Aside0.mk hj2; clear hj2 hk HJi hcb hRR hy hx0 hx1 hx2 hx3 hx4 hx5
      gi_wp2
      go_roundw
      case rel => exact ⟨q, pre ++ [_], by omega, by go_num, ⟨by rw [List.map_append, HP.out, HSN.out]; rfl⟩, HJ2⟩
      case measure => simp [intOf] <;> omega
    · have e : p = 0 := by omega
      subst e
      gi_wp2
      go_end0
      exact ⟨⟨_, rfl⟩, pre, by rw [HP.out, List.drop_zero], HJi.out⟩
end Go.Proofs.Ytcgpemefmakjiaa.PX
namespace Go.Proofs.Ytcgpemefmakjiaa.Iter
open Go.RowKit Go.Proofs.YtcgpemefmakjiaaW.PrintWords Go.Proofs.YtcgpemefmakjiaaW.PrintLast
variable {P : Program} {l n : Nat} {ops : Array Oper} {md : Region.Mode} {Q : Exit → Act → World → Prop}
theorem wpIn_of_wp {o : Oper} {a : Act} {w : World} {K : Act → World → Prop} (hd : ∀ c, o.op ≠ .defer c) (h : o.wp P a w K Q) : o.wpIn (Fence.wide.inRound l) n P a w K Q := by
  refine ⟨fun f _ => trivial, ?_⟩; rw [Oper.semAt_eq _ _ _ hd]; unfold Oper.wp at h; generalize (execOp a.eval o).run P w = r at h ⊢; unfold Oper.upon at h; unfold Oper.uponIn
  split at h
  (· exact h); (· exact h); (· exact h); (· exact ⟨fun hs => (by cases hs), CallsIn.inRound l (callsIn_wide.2 h)⟩); (· exact ⟨fun hs => (by cases hs), fun c cs _ => let ⟨v, w', r, s⟩ := h c cs; ⟨v, w', r, stepsIn_wide.2 s⟩⟩); (· exact h); (· exact h.elim)
theorem wpAnyIn_of_wpAny (hQ : ¬LetsOut Q) (hd : ∀ (i : Nat) o, ops[i]? = some o → ∀ c, o.op ≠ .defer c) : ∀ (fuel : Nat) (listed : Array Bool) (a : Act) (w : World), wpAny P md ops Q fuel listed a w → wpAnyIn (Fence.wide.inRound l) n P md ops Q fuel listed a w
  | 0, _, _, _, h => h
  | fuel + 1, listed, a, w, h => ⟨h.1, fun i hi => by
    have h2 := h.2 i hi; have ih := wpAnyIn_of_wpAny hQ hd fuel; unfold wpOp at h2; unfold wpOpIn
    cases ho : ops[i]? with
    | none =>
      rw [ho] at h2; exact ih _ _ _ h2
    | some o =>
      rw [ho] at h2; simp only at h2 ⊢
      split at h2
      · next hw =>
        rw [if_pos hw]
        rcases h2 with h2 | ⟨_, h2⟩
        (· exact Oper.wpIn_mono (fun a w h => ih _ a w h) (wpIn_of_wp (hd i o ho) h2)); (· exact absurd h2 hQ)
      · next hw =>
        rw [if_neg hw]
        exact ⟨fun f _ => trivial, ih _ _ _ h2⟩⟩
theorem startIn_ {S : World → Prop} {ds : List Nat} {id k : Nat} {a : Act} {w : World} (t : Array Bool) (hm : P.follows .mixedOrders = true) (hQ : ¬LetsOut Q) (hd : ops.toList.all (fun o => match o.op with | .defer _ => false | _ => true) = true) (hn : ops.size = k) (hl : Array.replicate k false = t) (hS : S w.drew)
    (h : S w.drew → wpAnyLast P .any ops Q S ds k t a w.drew) : (Code.region id ops true).wpIn (Fence.wide.inRound l) n P Q a w := by
  subst hn; subst hl; refine wpIn_region_any hm (wpAnyIn_of_wpAny hQ (fun i o ho c e => ?_) _ _ _ _ (wpAny_of_last _ _ _ _ (h hS))); rw [List.all_eq_true] at hd
  have := hd o (by
    obtain ⟨h, rfl⟩ := Array.getElem?_eq_some_iff.1 ho
    exact Array.getElem_mem_toList h)
  rw [e] at this
  cases this
end Go.Proofs.Ytcgpemefmakjiaa.Iter
