
/- Floors: the program's Right answers true for right floors. -/
import Derived.Test.YtnnephifjikkdaaGreatDoorFloF
set_option linter.unusedSimpArgs false
set_option linter.unusedVariables false
namespace Go.Proofs.YtnnephifjikkdaaGreatDoor
open Go.RowKit Go.IntWalk

set_option maxRecDepth 100000 in
set_option maxHeartbeats 4000000 in
theorem floorRight_any (W H D : Int) (Ak Ao : Option Addr) (ck co : Nat) (kind out : List Int) (w : World) (h : RF W H D kind out) (hk : SlR w w.heap.size Ak kind) (ho : SlR w w.heap.size Ao out) :
    Calls Tryz.prog 70 #[.agg #[.int .i64 W, .int .i64 H, .int .i64 D, .slice Ak kind.length ck, .slice Ao out.length co]] w fun e w' => e = .returned (.bool true) ∧ Below w.heap.size w w' := by
  have hb0 : Below w.heap.size w (w.alloc (Obj.cells #[Value.int .i64 W, Value.int .i64 H, Value.int .i64 D, Value.slice Ak kind.length ck, Value.slice Ao out.length co] 24)) := (Below.refl _ w).alloc (Nat.le_refl _) _
  have hs := h.s
  obtain ⟨w1, w2, h1, h2, d1, d2, hn⟩ := id hs
  have hkl := hid h.k
  have hol := hid h.o
  have hkr := hid h.kr
  have hor := hid h.orr
  have n1 := hs.whd
  clear h
  go_enter Tryz.func70, Tryz.ntmps70
  go_upto_region 1 with fail
  go_cut [26] (fun s wx => s = .bool false ∧ wx = w.alloc (Obj.cells #[Value.int .i64 W, Value.int .i64 H, Value.int .i64 D, Value.slice Ak kind.length ck, Value.slice Ao out.length co] 24))
  case first =>
    go_wp2_with fail
    all_goals (go_meet; exact ⟨by congr 1; simp; omega, rfl⟩)
  case rest =>
    obtain ⟨rfl, rfl⟩ := hcut
    go_wp2_with fail
    refine (size_any _ _ _ _ _ _ _ _ _ _ hs).mono ?_
    rintro e v1 ⟨rfl, hB⟩
    have bx := (Blk.new w _ _).below hB (by simp)
    have hb1 := hb0.trans (hB.mono (by simp))
    obtain ⟨k0, k1, k2, k3, k4⟩ := blk5 bx
    have e1 : ((kind.length : Int) != W * H * D) = false := by have := hkl.out; simp [this]
    have e2 : ((out.length : Int) != W * H * D) = false := by have := hol.out; simp [this]
    clear hB hb0
    go_wp2_with fail
    clear e1 e2
    have l1 : (kind.length : Int) ≤ 4096 := by have := hkl.out; omega
    have l2 : kind.length ≤ out.length := by have := hkl.out; have := hol.out; omega
    go_loop [48] (fun i => ∃ k : Nat, k ≤ kind.length ∧ i = .int .i64 k) (fun i => kind.length - (intOf i).toNat)
    case atStart => exact ⟨0, by omega, rfl⟩
    case round =>
      obtain ⟨k, hk0, rfl⟩ := hrel
      by_cases hlt : k < kind.length
      · have hlo : k < out.length := by omega
        obtain ⟨b, off, rfl, hbB, g1, _⟩ := (hk.below hb1).int hlt
        obtain ⟨b', off', rfl, hbB', g2, _⟩ := (ho.below hb1).int hlo
        have x1 := hkr.out _ (List.getElem_mem hlt)
        have y1 := hor.out _ (List.getElem_mem hlo)
        generalize kind[k] = x at *
        generalize out[k] = y at *
        obtain ⟨x1, x2⟩ := x1
        obtain ⟨y1, y2⟩ := y1
        have i1 : (k:Int) < kind.length := by omega
        have i2 : (k:Int) < out.length := by omega
        go_wp2
        go_round
        case rel => exact ⟨k+1, by omega, by go_num⟩
        case measure => simp [intOf]; omega
      · go_wp2
        go_ret
        exact ⟨rfl, hb1⟩
end Go.Proofs.YtnnephifjikkdaaGreatDoor
