
/- Seam: the reference's Hear, all kinds (printed by gen_seamrc.py). -/
import Derived.Test.YtfofmbmmighdiaaDoorSeamRck
import Derived.Test.YtfofmbmmighdiaaDoorSeamRcl
import Derived.Test.YtfofmbmmighdiaaDoorSeamRcm
set_option linter.unusedSimpArgs false
set_option linter.unusedVariables false
namespace Go.Proofs.YtfofmbmmighdiaaDoor
open Go.RowKit Go.IntWalk

theorem rhear_any {w : World} {base b : Nat} {v : Value} {me : Int} {rs : List Rob} (h : Dr w base b v me rs) (kd i no : Int) (take : Bool) :
    Calls Tryd.prog 23 #[.pointer (some ⟨b, 0, none⟩), .agg #[.int .i64 kd, .int .i64 i, .int .i64 no], .bool take] w (RHearRes w base b v me (hearR rs (kd, i, no) take)) := by
  by_cases hi : i < 0 ∨ (rs.length : Int) ≤ i ∨ kd < 0 ∨ 3 ≤ kd
  · exact rhear_none h kd i no take hi
  · obtain ⟨k, rfl⟩ : ∃ k : Nat, i = k := ⟨i.toNat, by omega⟩
    have hk : k < rs.length := by omega
    obtain ⟨A, c, rfl, _, _, hg⟩ := h.row
    obtain ⟨g, rfl, _, _, _⟩ := hg (by intro hh; simp [hh] at hk)
    have : kd = 0 ∨ kd = 1 ∨ kd = 2 := by omega
    rcases this with rfl | rfl | rfl
    · exact rhear_k0 h k hk no take
    · exact rhear_k1 h k hk no take
    · exact rhear_k2 h k hk no take
end Go.Proofs.YtfofmbmmighdiaaDoor
