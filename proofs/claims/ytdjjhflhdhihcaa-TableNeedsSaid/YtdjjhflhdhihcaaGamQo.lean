
/- Game: a small right game is a bounded one (out of GamQ). -/
import Derived.Test.YtdjjhflhdhihcaaGamM
import Derived.Test.YtdjjhflhdhihcaaGamF
set_option linter.unusedSimpArgs false
set_option linter.unusedVariables false
namespace Go.Proofs.Ytdjjhflhdhihcaa
open Go.RowKit Go.IntWalk

theorem ok_of {g : Gm} {n : Int} (hf : fewL g n = true) (hr : rightL g = true) (hn : n ≤ 1000) : GmOK g := by
  simp only [fewL, Bool.and_eq_true, decide_eq_true_eq, List.all_eq_true] at hf
  simp only [rightL, Bool.and_eq_true, decide_eq_true_eq, List.all_eq_true] at hr
  obtain ⟨⟨hf1, hf2⟩, hf3⟩ := hf
  obtain ⟨⟨hr1, hr2⟩, hr3⟩ := hr
  refine ⟨hr1, by omega, fun l hl => ?_, fun l hl m hm => ?_⟩
  · have := (hf1 l hl).1
    omega
  · have h1 := hf1 l hl
    have h2 := h1.2 m hm
    obtain ⟨_, h3, h4⟩ := mvsOK_mem (hr3 l hl) m hm
    refine ⟨by omega, asc_nodup h4, h3, fun t ht => ?_⟩
    have := asc_mem h4 t ht
    omega
end Go.Proofs.Ytdjjhflhdhihcaa
