
/- Layouts: Bytes and Read. -/
import Derived.Test.YtgbgcmhmlnmklaaGreatDoorLayQ
import Derived.Test.YtgbgcmhmlnmklaaGreatDoorWireUni
set_option linter.unusedSimpArgs false
set_option linter.unusedVariables false
namespace Go.Proofs.YtgbgcmhmlnmklaaGreatDoor
open Go.RowKit Go.IntWalk

set_option maxRecDepth 100000 in
set_option maxHeartbeats 1000000 in
theorem lbytes_any (A : Option Addr) (c : Nat) (l : List Bool) (t : Int) (w : World) (hl : l.length ≤ 24) (hs : SlR w w.heap.size A l) (ht : I64 t) (he : Env w) :
    Calls Tryz.prog 21 #[.agg #[.slice A l.length c, .int .i64 t]] w fun e w' => e = .returned (.string (bs (encLay l t))) ∧ Below w.heap.size w w' := by
  have li : ∀ n : Int, I64 n → (encI n).length ≤ 22 := by
    intro n hn
    have := Lib.itoa_length_le n hn.1 hn.2
    simp [encI]; omega
  have hen := encLay_len l t hl ht
  have hI : I64 (l.length : Int) := ⟨by omega, by omega⟩
  have hs1 : (bs (encI l.length)).size ≤ 22 := by rw [bs_size]; exact li _ hI
  have hs2 : (bs (encI t)).size ≤ 22 := by rw [bs_size]; exact li t ht
  have hs3 : (bs (encL ((idx l).map encI))).size ≤ 1000 := by
    rw [bs_size]; unfold encLay at hen; simp only [List.length_append] at hen; omega
  have hs4 : (bs (encI l.length) ++ bs (encL ((idx l).map encI))).size ≤ 1022 := by
    rw [bs_app, bs_size]; unfold encLay at hen; simp only [List.length_append] at hen ⊢; omega
  have hfl : ((idx l).map encI).flatten.length ≤ 1000000000000 := by
    unfold encLay encL at hen; simp only [List.length_append] at hen; omega
  have hil := hid (idx_len l)
  have him := hid (idx_mem l)
  clear hen li
  have hb0 : Below w.heap.size w (w.alloc (Obj.cells #[.slice A l.length c, .int .i64 t] 27)) := by (repeat (first | exact Below.refl _ _ | assumption | refine below_drewN ?_ _ | refine Below.drew ?_ | refine Below.alloc ?_ (by (try simp); (try omega)) _ | refine Below.setCell ?_ (by (try simp); (try omega)) _))
  have b0 := hid (Blk.new w 27 #[.slice A l.length c, .int .i64 t])
  go_enter Tryz.func21, Tryz.ntmps21
  go_wp2_with fail
  go_loopw [3, 9] (fun v i wr => ∃ k : Nat, k ≤ l.length ∧ i = .int .i64 k ∧ OwnI wr (w.heap.size + 1) v (idx (l.take k)) ∧ Below w.heap.size w wr ∧ Blk wr w.heap.size 27 #[.slice A l.length c, .int .i64 t]) (fun _ i _ => l.length - (intOf i).toNat)
  case atStart => exact ⟨0, by omega, rfl, by simpa [idx] using OwnI.nil _ _, hb0, b0.out⟩
  case round =>
    clear hb0 b0
    obtain ⟨k, hk, rfl, hown, hB, hbx⟩ := hrel
    have hzb := hbx.lt
    by_cases hlt : k < l.length
    · obtain ⟨b, off, rfl, _, g1⟩ := (hs.below hB).bool hlt
      have hsn := hid (idx_snoc l k hlt)
      have hlt' : (k : Int) < l.length := by omega
      have hlen : (idx (l.take k)).length ≤ 24 := by have := idx_len (l.take k); have := List.length_take_le k l; omega
      generalize l[k] = x at *
      have hsz := hB.size
      have Hbx := hid hbx
      clear hbx
      cases x with
      | true =>
        go_wp2_with (at_builtin; refine wp_appI _ rfl (.tmp 15) (.tmp 17) rfl (w.heap.size + 1) _ _ rfl (hown.alloc _) _ _ [(k : Int)] rfl (cell1_newK _ _) (by simp at hlen ⊢; omega) (by simp; omega) ?_; intro v1 w5 ho1 hg5 hat1)
        have hB5 : Below w.heap.size w w5 := (hB.alloc hB.size _).grown hg5 (hB.alloc hB.size _).size (fun k hk => by have := hown.row k hk; omega)
        have hbx5 : Blk w5 w.heap.size 27 #[.slice (some ⟨b, off, none⟩) l.length c, .int .i64 t] := Blk.grown (Hbx.out.alloc _) hg5 (fun e => by have := hown.row _ e.symm; omega)
        go_wp2_with fail
        go_roundw
        case rel => exact ⟨k + 1, by omega, by go_num, by rw [hsn.out]; exact ho1, hB5, hbx5⟩
        case measure => simp [intOf]; omega
      | false =>
        go_wp2_with fail
        go_roundw
        case rel => exact ⟨k + 1, by omega, by go_num, by rw [hsn.out]; simpa using hown, hB, Hbx.out⟩
        case measure => simp [intOf]; omega
    · obtain rfl : k = l.length := by omega
      rw [List.take_length] at hown
      obtain ⟨A', c', rfl, _, _, hsl⟩ := hown.slr (fun x hx => by have := him.out x hx; exact ⟨by omega, by omega⟩)
      have x0 := hbx.cell 0; have x1 := hbx.cell 1
      simp at x0 x1
      have hz := hbx.lt
      clear hown hbx
      go_upto_region 8 with fail
      have hx := fun x : Ext (GB wr) => GB.cell x
      have env := hid (fun x : Ext (GB wr) => he.below (hB.trans (x.h.out.mono hB.size)))
      have ca : Hid (∀ x : Ext (GB wr), Calls Tryz.prog 43 #[.int .i64 l.length] x.w fun e w'' => e = .returned (.string (bs (encI l.length))) ∧ ∃ y : Ext (GB wr), w'' = y.w) := hid fun x => by
        have := GB.call (wNum_any l.length hI x.w (env.out x))
        rw [if_neg (by omega)] at this
        exact this
      have cb := hid fun x : Ext (GB wr) => GB.call (wNums_any A' c' (idx l) x.w hfl (by have := hil.out; omega) ((hsl.below x.h.out).more x.h.out.size) (env.out x))
      have cc := hid fun x : Ext (GB wr) => GB.call (wInt_any t ht x.w (env.out x))
      clear hfl
      refine wp_region_ext (GB wr) (by kernel_rfl) (by kernel_rfl) (GB.refl _) ?_
      repeat (go_big_quiet_step (first | exact ca.out _ | exact cb.out _ | exact cc.out _))
      refine wpQuiet_nil ?_
      intro w3 hG
      clear hx ca cb cc env
      go_wp2_with fail
      go_ret
      exact ⟨ret_str (by rw [bs_app, bs_app]; rfl), hB.trans (hG.out.mono hB.size)⟩
end Go.Proofs.YtgbgcmhmlnmklaaGreatDoor
