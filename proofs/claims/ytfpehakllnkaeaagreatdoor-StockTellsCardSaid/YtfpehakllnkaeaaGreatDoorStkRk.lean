
/- Stock: how takes, boxes, lots, kinds and wants lie (row kinds). -/
import Derived.Test.YtfpehakllnkaeaaGreatDoorRowG
import Derived.Test.YtfpehakllnkaeaaGreatDoorStkA
set_option linter.unusedSimpArgs false
set_option linter.unusedVariables false
namespace Go.Proofs.YtfpehakllnkaeaaGreatDoor
open Go.RowKit Go.IntWalk

def tkRK : RK Tk where
  e := 66
  t := 28
  size := 2
  bytes := 16
  z := .agg #[.int .i64 0, .int .i64 0]
  cs x := [.int .i64 x.1, .int .i64 x.2]
  ok x := I64 x.1 ∧ I64 x.2
  und := Tryz.underlying28
  info := by kernel_rfl
  zcs := rfl
  pos := by omega
  small := by omega
  len _ := rfl
  one x v hv := by simp at hv; rcases hv with rfl | rfl <;> rfl
  rsz := rfl
  rep w B x h := ⟨[.int .i64 x.1], [.int .i64 x.2], rfl, rfl, rfl, ⟨rfl, h.1⟩, rfl, h.2⟩
  inv w B c x h := by obtain ⟨c1, c2, rfl, _, _, ⟨rfl, i0⟩, rfl, i1⟩ := h; exact ⟨rfl, i0, i1⟩
def bxRK : RK Bx where
  e := 45
  t := 24
  size := 3
  bytes := 24
  z := .agg #[.int .i64 0, .int .i64 0, .int .i64 0]
  cs x := [.int .i64 x.1, .int .i64 x.2.1, .int .i64 x.2.2]
  ok x := I3 x
  und := Tryz.underlying24
  info := by kernel_rfl
  zcs := rfl
  pos := by omega
  small := by omega
  len _ := rfl
  one x v hv := by simp at hv; rcases hv with rfl | rfl | rfl <;> rfl
  rsz := rfl
  rep w B x h := ⟨[.int .i64 x.1], [.int .i64 x.2.1, .int .i64 x.2.2], rfl, rfl, rfl, ⟨rfl, h.1⟩, [.int .i64 x.2.1], [.int .i64 x.2.2], rfl, rfl, rfl, ⟨rfl, h.2.1⟩, rfl, h.2.2⟩
  inv w B c x h := by obtain ⟨c1, c2, rfl, _, _, ⟨rfl, i0⟩, c3, c4, rfl, _, _, ⟨rfl, i1⟩, rfl, i2⟩ := h; exact ⟨rfl, i0, i1, i2⟩
end Go.Proofs.YtfpehakllnkaeaaGreatDoor
