
/- A range over a function whose iterator reads, between two rounds, what the rounds write: the rounds are counted. -/
import Derived.Test.YtfpehakllnkaeaaDoorBase
import Derived.RangeFuncNested
import Derived.RangeFuncBound
import Derived.RangeFuncCalls
import Derived.RangeFuncLeaves
set_option linter.unusedSimpArgs false
set_option linter.unusedVariables false
namespace Go.Proofs.YtfpehakllnkaeaaDoor
open Go.RowKit

/-- The k-th round is handed enc k; go k says that there is a k-th round; I k holds ahead of it. The iterator may read whatever I says. -/
theorem wpIn_rangeFunc_nat {F : Fence} {n : Nat} {P : Program} {g : Operand} {ps : Array Tmp} {assign body : Code} {Q : Exit → Act → World → Prop} {a : Act} {w : World}
    (hro : F.round = none) (h1 : 1 ≤ n) {gf : Nat} {lb : Array Value} (hg : a.eval g = .func (.func gf) #[] lb) (hFg : F.fn gf) (eg : ∀ args w, (callFunc gf args).run P w = .ok (.enter gf args) w)
    {enc : Nat → Array Value} (hps : ∀ k, (enc k).size = ps.size) (go : Nat → Prop) (I : Nat → World → Prop) (hI : OwnFrom w.heap.size I) (h0 : I 0 w)
    (hiter : ∀ (l : Nat) (J : Nat → World → Prop) (W : World), (∀ k W', J k W' → I k W') → J 0 W →
      (∀ k W1, J k W1 → go k → YieldAt F (n - 1 - 1) P l (enc k) W1 fun e W' => e = .returned (.bool true) ∧ J (k + 1) W') →
      CallsIn F (n - 1) P gf (#[.func (.yield l) #[] #[]] ++ lb) W fun e W' => (∃ v, e = .returned v) ∧ ∃ k, ¬ go k ∧ J k W')
    (a₁ : Nat → Act)
    (hassign : ∀ (l k : Nat) (W : World) (K : Act → World → Prop), K (a₁ k) W →
      assign.wpIn (F.inRound l) (n - 1 - 1) P (Exit.then K (fun _ _ _ => False)) { tmps := (ps.zip (enc k)).foldl (fun t (p, v) => t.setIfInBounds p v) a.tmps, defers := [] } W)
    (hbody : ∀ (l k : Nat) (W : World), I k W → go k → body.wpIn (F.inRound l) (n - 1 - 1) P (fun e _ W' => e = .normal ∧ KeepsOthers W W' ∧ I (k + 1) W') (a₁ k) W)
    (hdone : ∀ (D k : Nat) (W : World), w.heap.size ≤ D → ¬ go k → I k W → W.heap[D]? = some (.deferred (some [])) → Q .normal { a with defers := { target := .collected D, args := #[] } :: a.defers } W) :
    (Code.rangeFunc g ps assign body).wpIn F n P Q a w := by
  apply wpIn_rangeFunc
  intro fn hfn
  rw [hro]
  -- the loop's record, by its state
  let rc : LoopState → Loop := fun st => { state := st, pending := none, fn, tmps := a.tmps, params := ps, assign, body, defers := w.heap.size }
  let D := w.heap.size
  let W0 := (w.alloc (.deferred (some []))).alloc (.loop (rc .ready))
  have hrec : W0.heap[D + 1]? = some (.loop (rc .ready)) := by
    have := World.alloc_heap_new (w.alloc (.deferred (some []))) (.loop (rc .ready))
    rwa [World.size_alloc] at this
  have hdef : W0.heap[D]? = some (.deferred (some [])) := (Below.heap_alloc _ _ _ (by simp [D])).trans (World.alloc_heap_new w _)
  have hI0 : I 0 W0 := hI.alloc _ (hI.alloc _ h0)
  -- between two rounds
  let J : Nat → World → Prop := fun k W => I k W ∧ W.heap[D + 1]? = some (.loop (rc .ready)) ∧ W.heap[D]? = some (.deferred (some []))
  refine ⟨D + 1, [{ target := .collected D, args := #[] }], W0, { target := .fn (.func gf) lb, args := #[.func (.yield (D + 1)) #[] #[]] }, W0, gf, #[.func (.yield (D + 1)) #[] #[]] ++ lb, W0,
    run_enterLoop_outer _ _ _ _ _, ?_, ?_, ?_, fun _ => h1, ?_⟩
  · simp only [resolve, hg]
    simp [go_sem]
  · intro f' hf'
    simp [Target.leads] at hf'
    subst hf'
    exact hFg
  · simp [invoke, go_sem, eg]
  · refine (hiter (D + 1) J W0 (fun k W' h => h.1) ⟨hI0, hrec, hdef⟩ ?_).mono ?_
    · rintro k W ⟨hi, hl, hk⟩ hgo
      have hlt : D + 1 < W.heap.size := (Array.getElem?_eq_some_iff.1 hl).1
      refine ⟨fn, _, assign, body, run_yield (P := P) (args := enc k) hl (hps k), roundIn_of_wpIn hfn (hassign _ k W _ ⟨_, run_beginRound hl rfl, ?_⟩)⟩
      have hl2 : (W.putObj (D + 1) (.loop (rc .busy))).heap[D + 1]? = some (.loop (rc .busy)) := World.putObj_heap_same hlt
      have hk2 : (W.putObj (D + 1) (.loop (rc .busy))).heap[D]? = some (.deferred (some [])) := (World.putObj_heap_other (by omega)).trans hk
      refine wpIn_mono (hbody _ k _ (hI.putObj _ hi (by omega) hl rfl) hgo) ?_
      rintro e a3 W3 ⟨rfl, hk3, hi3⟩
      have hl3 := hk3.same _ _ hl2 rfl
      have hlt3 : D + 1 < W3.heap.size := (Array.getElem?_eq_some_iff.1 hl3).1
      exact ⟨_, _, run_endRound (P := P) none hl3, rfl, hI.putObj _ hi3 (by omega) hl3 rfl, World.putObj_heap_same hlt3, (World.putObj_heap_other (by omega)).trans (hk3.same _ _ hk2 rfl)⟩
    · rintro e W2 ⟨⟨v, rfl⟩, k, hgo, hi, hl, hk⟩
      exact ⟨none, _, run_endLoop (P := P) hl (by simp [rc]), hdone D k _ (Nat.le_refl _) hgo (hI.putObj _ hi (by omega) hl rfl) ((World.putObj_heap_other (by omega)).trans hk)⟩
end Go.Proofs.YtfpehakllnkaeaaDoor
