/- Wire: the documented examples. -/
import Derived.Test.YtjdblegmpmampaaDoorWireE
set_option linter.unusedSimpArgs false
set_option linter.unusedVariables false
namespace Go.Proofs.YtjdblegmpmampaaDoor
open Go.RowKit Go.IntWalk

theorem k1 : bs (if (0 : Int) < 0 then [] else encI 0) = ⟨#[48, 59]⟩ := by simp [encI, Lib.itoa, Lib.decDigits, bs]
theorem k2 : bs (if (300 : Int) < 0 then [] else encI 300) = ⟨#[51, 48, 48, 59]⟩ := by simp [encI, Lib.itoa, Lib.decDigits, bs]
theorem k3 : bs (if (-1 : Int) < 0 then [] else encI (-1)) = ⟨#[]⟩ := by simp [bs]
theorem k4 : bs (encI (-7)) = ⟨#[45, 55, 59]⟩ := by simp [encI, Lib.itoa, Lib.decDigits, bs]
theorem k5 : bs (encI 7) = ⟨#[55, 59]⟩ := by simp [encI, Lib.itoa, Lib.decDigits, bs]
theorem k6 : bs (encT [97, 44, 98]) = ⟨#[51, 58, 97, 44, 98, 44]⟩ := by simp [encT, Lib.itoa, Lib.decDigits, bs]
theorem k7 : bs (encL ([1, -1].map encI)) = ⟨#[50, 91, 49, 59, 45, 49, 59, 93]⟩ := by simp [encL, encI, Lib.itoa, Lib.decDigits, bs]
theorem k8 : bs (encL (([] : List ByteArray).map encB)) = ⟨#[48, 91, 93]⟩ := by simp [encL, Lib.itoa, Lib.decDigits, bs]
theorem k9 : numL [48, 48, 55, 59] 59 0 = none := by
  have h1 : Lib.indexByte [48, 48, 55, 59] 59 = 3 := by decide
  have h2 : Lib.atoiAll [48, 48, 55] = .ok 7 := by decide
  have h3 : Lib.itoa 7 = [55] := by simp [Lib.itoa, Lib.decDigits]
  simp [numL, h1, h2, h3]

set_option maxHeartbeats 400000 in
theorem num_any (b : Nat) (l : List UInt8) (bad : Bool) (w : World) (h : Rd w b l bad) (hl : l.length ≤ 1000000000000) (he : Env w) :
    Calls Tryd.prog 23 #[.pointer (some ⟨b, 0, none⟩)] w (RdRes w b bad (numL l 59 0)) := by
  have H := hid (number_any b l bad 59 0 w h hl he)
  cases hr : numL l 59 0 with
  | none =>
    rw [hr] at H
    go_enter Tryd.func23, Tryd.ntmps23
    go_wp2_with fail
    refine H.out.mono ?_
    rintro e w1 ⟨rfl, h1, h2⟩
    go_wp2_with fail
    go_ret
    exact ⟨rfl, h1, h2⟩
  | some x =>
    obtain ⟨v, l'⟩ := x
    rw [hr] at H
    go_enter Tryd.func23, Tryd.ntmps23
    go_wp2_with fail
    refine H.out.mono ?_
    rintro e w1 ⟨rfl, h1, h2⟩
    go_wp2_with fail
    go_ret
    exact ⟨rfl, h1, h2⟩

set_option maxRecDepth 20000 in
set_option maxHeartbeats 2000000 in
theorem small_any (w : World) (he : Env w) : Calls Tryd.prog 9 #[] w fun e w' => e = .returned (.bool true) ∧ Below w.heap.size w w' := by
  go_enter Tryd.func9, Tryd.ntmps9
  go_wp2_with fail
  refine (wNum_any 0 (by simp [I64]) w he).mono ?_
  rw [k1]
  rintro e w1 ⟨rfl, hB1⟩
  go_wp2_with fail
  refine (wNum_any 300 (by simp [I64]) w1 (he.below hB1)).mono ?_
  rw [k2]
  rintro e w2 ⟨rfl, hB⟩
  have hB2 := hB1.trans (hB.mono hB1.size)
  clear hB hB1
  go_wp2_with fail
  refine (wNum_any (-1) (by simp [I64]) w2 (he.below hB2)).mono ?_
  rw [k3]
  rintro e w3 ⟨rfl, hB⟩
  have hB3 := hB2.trans (hB.mono hB2.size)
  clear hB hB2
  go_wp2_with fail
  refine (wInt_any (-7) (by simp [I64]) w3 (he.below hB3)).mono ?_
  rw [k4]
  rintro e w4 ⟨rfl, hB⟩
  have hB4 := hB3.trans (hB.mono hB3.size)
  clear hB hB3
  go_wp2_with fail
  refine (wInt_any 7 (by simp [I64]) w4 (he.below hB4)).mono ?_
  rw [k5]
  rintro e w5 ⟨rfl, hB⟩
  have hB5 := hB4.trans (hB.mono hB4.size)
  clear hB hB4
  go_wp2_with fail
  refine (wText_any ⟨#[97, 44, 98]⟩ (by decide) w5 (he.below hB5)).mono ?_
  rw [show (⟨#[97, 44, 98]⟩ : ByteArray).data.toList = [97, 44, 98] from rfl, k6]
  rintro e w6 ⟨rfl, hB⟩
  have hB6 := hB5.trans (hB.mono hB5.size)
  clear hB hB5
  go_wp2_with fail
  refine (wNums_any _ _ [1, -1] _ (by simp [encI, Lib.itoa, Lib.decDigits]) (by simp) (Blk.ints (l := [1, -1]) (Blk.new_at (by simp)) (by simp) (by simp [I64])) (he.below (hB6.alloc hB6.size _))).mono ?_
  rw [k7]
  rintro e w7 ⟨rfl, hB⟩
  have hB7 : Below w.heap.size w w7 := (hB6.alloc hB6.size _).trans (hB.mono (hB6.alloc hB6.size _).size)
  clear hB hB6
  go_wp2_with fail
  refine (wTexts_any none 0 [] _ (by simp) (by simp) (by simp) SlR.nil (he.below hB7)).mono ?_
  rw [k8]
  rintro e w8 ⟨rfl, hB⟩
  have hB8 := hB7.trans (hB.mono hB7.size)
  clear hB hB7
  go_wp2_with fail
  refine (open_any ⟨#[48, 48, 55, 59]⟩ w8).mono ?_
  rintro e w9 ⟨rfl, hR, hB⟩
  have hB9 := hB8.trans (hB.mono hB8.size)
  have hz := hB8.size
  clear hB hB8
  go_wp2_with fail
  refine (num_any _ [48, 48, 55, 59] false w9 hR (by simp) (he.below hB9)).mono ?_
  rw [k9]
  rintro e w10 ⟨rfl, h10, hg⟩
  have hB10 : Below w.heap.size w w10 := hB9.grown hg hB9.size (fun k hk => by injection hk with hk; omega)
  clear hg hB9 hR
  go_wp2_with fail
  refine (left_any _ [] true w10 h10).mono ?_
  simp only [List.length_nil]
  rintro e w11 ⟨rfl, hB⟩
  have hB11 := hB10.trans (hB.mono hB10.size)
  have h11 : Rd w11 w8.heap.size [] true := Blk.below h10 hB h10.lt
  clear hB hB10 h10
  go_wp2_with fail
  refine (done_any _ [] true w11 h11).mono ?_
  simp only [Bool.not_true, Bool.false_and]
  rintro e w12 ⟨rfl, hB⟩
  have hB12 := hB11.trans (hB.mono hB11.size)
  go_wp2_with fail
  go_ret
  exact ⟨rfl, hB12⟩
end Go.Proofs.YtjdblegmpmampaaDoor
