
/- Lease: LeaseGoes, the walk: both ways. -/
import Derived.Test.YtappgjdnfllblaaDoorLeaGx
import Derived.Test.YtappgjdnfllblaaDoorLeaGy
set_option linter.unusedSimpArgs false
set_option linter.unusedVariables false
namespace Go.Proofs.YtappgjdnfllblaaDoor
open Go.RowKit Go.IntWalk Go.Maps Go.WideMaps
theorem lgoes_any (Ah : Option Addr) (ch : Nat) (home : List Int) (Al : Option Addr) (cl : Nat) (l : List Ac) (zn tm : Int) (w : World) (h1 : home.length ≤ ch) (h2 : ch ≤ maxLen) (hll : l.length ≤ maxLen)
    (hh : SlR w w.heap.size Ah home) (hs : SlR w w.heap.size Al l) (he : Env w) :
    Calls Tryd.prog 7 #[.slice Ah home.length ch, .slice Al l.length cl, .int .i64 zn, .int .i64 tm] w fun e w' => e = .returned (.bool true) ∧ Below w.heap.size w w' := by
  by_cases h : ∃ t : Nat, zn = (t : Int) ∧ ∃ h : t < home.length, home[t] = 0
  · obtain ⟨t, e, ht, h0⟩ := h
    refine lgoes_0 Ah ch home Al cl l zn tm w h1 h2 hll hh hs he (fun u eu hu => ?_)
    obtain rfl : u = t := by omega
    exact h0
  · refine lgoes_1 Ah ch home Al cl l zn tm w h1 h2 hll hh hs he (fun u eu hu e0 => h ⟨u, eu, hu, e0⟩)
end Go.Proofs.YtappgjdnfllblaaDoor
