
/- A list that lies whole in a fresh block, element by element (GENERAL). -/
import Derived.Test.YteljfpcmpdpehaaGreatDoorBase
set_option linter.unusedSimpArgs false
set_option linter.unusedVariables false
namespace Go.Proofs.YteljfpcmpdpehaaGreatDoor
open Go.RowKit Go.IntWalk

theorem flat_at {s : Nat} : ∀ (css : List (List Value)) (k : Nat) (hk : k < css.length) (j : Nat), (∀ c ∈ css, c.length = s) → j < s → css.flatten[k * s + j]? = css[k][j]?
  | c :: css, 0, _, j, h, hj => by
    have := h c (List.mem_cons_self ..)
    rw [List.flatten_cons, Nat.zero_mul, Nat.zero_add, List.getElem?_append_left (by omega)]
    rfl
  | c :: css, k + 1, hk, j, h, hj => by
    have h0 := h c (List.mem_cons_self ..)
    have := flat_at css k (by simpa using hk) j (fun x hx => h x (List.mem_cons_of_mem _ hx)) hj
    rw [List.flatten_cons, List.getElem?_append_right (by rw [h0, Nat.succ_mul]; omega), h0, show (k + 1) * s + j - s = k * s + j by rw [Nat.succ_mul]; omega, this]
    rfl
theorem slr_flat {T : Type} [Rep T] {w : World} {g : Nat} {t : TypeId} {l : List T} (css : List (List Value)) (hb : Blk w g t css.flatten.toArray) (hlen : css.length = l.length) (hsz : ∀ c ∈ css, c.length = Rep.size T) (hrep : ∀ k (hk : k < l.length), Rep.rep w w.heap.size (css[k]'(by omega)) l[k]) : SlR w w.heap.size (some ⟨g, 0, none⟩) l := by
  intro k x hx
  obtain ⟨hk, rfl⟩ := List.getElem?_eq_some_iff.1 hx
  have hc := hsz _ (List.getElem_mem (show k < css.length by omega))
  refine ⟨g, 0, css[k]'(by omega), rfl, hb.lt, hc, fun j u hu => ?_, hrep k hk⟩
  have hj : j < Rep.size T := by rw [← hc]; exact (List.getElem?_eq_some_iff.1 hu).1
  rw [hb.cell, Nat.zero_add, List.getElem?_toArray, flat_at css k (by omega) j hsz hj, hu]
end Go.Proofs.YteljfpcmpdpehaaGreatDoor
