
/- Robots: the reference's Bytes and Read (chapter 22). -/
import Derived.Test.YtnnephifjikkdaaGreatDoorRobT
import Derived.Test.YtnnephifjikkdaaGreatDoorRobWa
import Derived.Test.YtnnephifjikkdaaGreatDoorWire5
set_option linter.unusedSimpArgs false
set_option linter.unusedVariables false
namespace Go.Proofs.YtnnephifjikkdaaGreatDoor
open Go.RowKit Go.IntWalk

set_option maxRecDepth 100000 in
set_option maxHeartbeats 1000000 in
theorem rfmbytes_any (c0 : Int) (Aq : Option Addr) (cq : Nat) (q : List Int) (w : World) (hc : I64 c0) (hql : q.length ≤ 1000) (hq : SlR w w.heap.size Aq q) :
    Calls Tryz.prog 46 #[.agg #[.int .i64 c0, .slice Aq q.length cq]] w fun e w' => e = .returned (.string (bs (encM c0 q))) ∧ Below w.heap.size w w' := by
  have li : ∀ n : Int, I64 n → (encI n).length ≤ 22 := by
    intro n hn
    have := Lib.itoa_length_le n hn.1 hn.2
    simp [encI]; omega
  have hfl : (q.map encI).flatten.length ≤ 1000000000000 := by
    have h1 := encM_len 0 q (by simp [I64]) hq.ints 1000 hql (by decide)
    unfold encM encL at h1
    simp only [List.length_append] at h1
    omega
  have hs1 : (bs (encI c0)).size ≤ 22 := by rw [bs_size]; exact li c0 hc
  have hs2 : (bs (encL (q.map encI))).size ≤ 23000 := by
    rw [bs_size]
    have h1 := encM_len 0 q (by simp [I64]) hq.ints 1000 hql (by decide)
    unfold encM at h1
    simp only [List.length_append] at h1
    omega
  have hb0 : Below w.heap.size w (w.alloc (Obj.cells #[.int .i64 c0, .slice Aq q.length cq] 48)) := by (repeat (first | exact Below.refl _ _ | assumption | refine below_drewN ?_ _ | refine Below.drew ?_ | refine Below.alloc ?_ (by (try simp); (try omega)) _ | refine Below.setCell ?_ (by (try simp); (try omega)) _))
  go_enter Tryz.func46, Tryz.ntmps46
  go_upto_region 1 with fail
  generalize hw1 : w.alloc (Obj.cells #[.int .i64 c0, .slice Aq q.length cq] 48) = w1
  have bx : Blk w1 w.heap.size 48 #[.int .i64 c0, .slice Aq q.length cq] := by rw [← hw1]; exact Blk.new _ _ _
  rw [hw1] at hb0
  have x0 := bx.cell 0; have x1 := bx.cell 1
  simp at x0 x1
  have hz := bx.lt
  clear hw1
  have hx := fun x : Ext (GB w1) => GB.cell x
  have ca := hid fun x : Ext (GB w1) => GB.call (rInt_any c0 hc x.w)
  have cb := hid fun x : Ext (GB w1) => GB.call (rNums_any Aq cq q x.w hfl (by omega) ((hq.below (hb0.trans (x.h.out.mono hb0.size))).more (hb0.trans (x.h.out.mono hb0.size)).size))
  clear hfl li
  refine wp_region_ext (GB w1) (by kernel_rfl) (by kernel_rfl) (GB.refl _) ?_
  repeat (go_big_quiet_step (first | exact ca.out _ | exact cb.out _))
  refine wpQuiet_nil ?_
  intro w3 hG
  clear hx ca cb
  go_wp2_with fail
  go_ret
  exact ⟨ret_str (by rw [bs_app]; rfl), hb0.trans (hG.out.mono hb0.size)⟩
theorem own_form9 {w : World} {base : Nat} {v : Value} {l : List Int} (h : OwnI w base v l) : ∃ A c, v = .slice A l.length c := by
  rcases h.2 with ⟨rfl, h0⟩ | ⟨g, cap, cur, rfl, _⟩
  · exact ⟨none, 0, by rw [h0]⟩
  · exact ⟨_, _, rfl⟩
theorem int_uniR (l : List UInt8) (bad : Bool) (hl : l.length ≤ 1000000000000) : ∃ (v : Int) (l' : List UInt8) (bad' : Bool), I64 v ∧ l'.length ≤ l.length ∧
    (∀ (b : Nat) (W : World), Rr W b l bad → Calls Tryz.prog 59 #[.pointer (some ⟨b, 0, none⟩)] W fun e w' => e = .returned (.int .i64 v) ∧ Rr w' b l' bad' ∧ W.grownBy w' (some b)) ∧
    ((fI l = some (v, l') ∧ bad' = bad) ∨ (fI l = none ∧ v = 0 ∧ l' = [] ∧ bad' = true)) := by
  cases hr : numL l 59 (-9223372036854775808) with
  | none =>
    refine ⟨0, [], true, by simp [I64], by simp, fun b W h => ?_, .inr ⟨hr, rfl, rfl, rfl⟩⟩
    have := intRr_any b l bad W h hl
    rw [hr] at this
    exact this
  | some x =>
    obtain ⟨v, l'⟩ := x
    refine ⟨v, l', bad, numL_bd hr, (numL_shorter hr).1, fun b W h => ?_, .inl ⟨hr, rfl⟩⟩
    have := intRr_any b l bad W h hl
    rw [hr] at this
    exact this
theorem nums_uniR (l : List UInt8) (bad : Bool) (hl : l.length ≤ 1000000000000) (hbad : bad = true → l = []) : ∃ (xs : List Int) (l' : List UInt8) (bad' : Bool), (∀ x ∈ xs, I64 x) ∧ xs.length ≤ l.length ∧ l'.length ≤ l.length ∧
    (∀ (b : Nat) (W : World), Rr W b l bad → Calls Tryz.prog 58 #[.pointer (some ⟨b, 0, none⟩)] W fun e w' => ∃ A c, e = .returned (.slice A xs.length c) ∧ OwnI w' W.heap.size (.slice A xs.length c) xs ∧ Rr w' b l' bad' ∧ W.grownBy w' (some b)) ∧
    ((listL fI l = some (xs, l') ∧ bad' = bad) ∨ (listL fI l = none ∧ xs = [] ∧ l' = [] ∧ bad' = true)) := by
  cases hr : listL fI l with
  | none =>
    refine ⟨[], [], true, by simp, by simp, by simp, fun b W h => ?_, .inr ⟨rfl, rfl, rfl, rfl⟩⟩
    have := numsRr_any b l bad W h hbad hl
    rw [hr] at this
    refine this.mono ?_
    rintro e w' ⟨rfl, h1, h2⟩
    exact ⟨none, 0, rfl, OwnI.nil _ _, h1, h2⟩
  | some x =>
    obtain ⟨xs, l'⟩ := x
    have hbd := listI_bd hr
    have hb0 : bad = false := by
      cases bad with
      | false => rfl
      | true => rw [hbad rfl] at hr; simp [listL, numL, Lib.indexByte] at hr
    subst hb0
    refine ⟨xs, l', false, hbd.1, listI_len hr, hbd.2, fun b W h => ?_, .inl ⟨rfl, rfl⟩⟩
    have := numsRr_any b l false W h hbad hl
    rw [hr] at this
    refine this.mono ?_
    rintro e w' ⟨v, rfl, ho, h1, h2⟩
    obtain ⟨A, c, rfl⟩ := own_form9 ho
    exact ⟨A, c, rfl, ho, h1, h2⟩
end Go.Proofs.YtnnephifjikkdaaGreatDoor
