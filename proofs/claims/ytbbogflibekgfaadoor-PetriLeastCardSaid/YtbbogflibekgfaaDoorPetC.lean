
/- Petri: a copied slice; a set as a word; Enabled. -/
import Derived.Test.YtbbogflibekgfaaDoorPetB
import Derived.Test.YtbbogflibekgfaaDoorMem
import Derived.Laws.Bits64b
import Derived.Laws.BitsAllLaws
set_option linter.unusedSimpArgs false
set_option linter.unusedVariables false
namespace Go.Proofs.YtbbogflibekgfaaDoor
open Go.RowKit Go.IntWalk Go.Shelf

theorem slr_none {w : World} {B : Nat} {l : List Int} (h : SlR w B none l) : l = [] := by
  cases l with
  | nil => rfl
  | cons x l => obtain ⟨b, off, hA, _⟩ := h.int (k := 0) (by simp); cases hA
set_option maxRecDepth 100000 in
set_option maxHeartbeats 1000000 in
theorem sclone_own (A : Option Addr) (c : Nat) (l : List Int) (w : World) (hl : l.length ≤ 65536) (hs : SlR w w.heap.size A l) :
    Calls Tryd.prog 40 #[.slice A l.length c] w fun e w' => ∃ v, e = .returned v ∧ OwnI w' w.heap.size v l ∧ Below w.heap.size w w' := by
  have hn1 := fun W => Lib.run_eql_slice_nil (P := Tryd.prog) W 25 3 A l.length c 0 0 Tryd.underlying25
  cases A with
  | none =>
    have hl0 := slr_none hs
    subst hl0
    simp only [Option.isNone_none, List.length_nil] at hn1
    go_enter Tryd.func40, Tryd.ntmps40
    go_wp2
    go_ret
    exact ⟨_, rfl, OwnI.nil _ _, Below.refl _ _⟩
  | some ad =>
    simp only [Option.isNone_some] at hn1
    have hints := hid hs.ints
    have hcell : Hid (∀ (j : Nat) (u : Value), (l.map (Value.int .i64))[j]? = some u → w.cell? (ad.add j) = some u) := by
      intro j u hu
      have hpos : 0 < l.length := by
        cases l with
        | nil => simp at hu
        | cons x l => simp
      obtain ⟨b, off, hA, _, hc⟩ := hs.int_cells hpos
      injection hA with hA
      rw [hA]; exact hc j u hu
    have hbl : Hid (∀ (j : Nat) (u : Value), (l.map (Value.int .i64))[j]? = some u → (w.alloc (Obj.cells #[] 3)).cell? (ad.add j) = some u) := fun j u hu => by
      have := hcell.out j u hu
      rw [← this]
      exact World.cell?_alloc_lt w _ _ (by have := cell_lt this; exact this.1)
    have hown : Hid (OwnI (w.alloc (Obj.cells #[] 3)) w.heap.size (.slice (some ⟨w.heap.size, 0, none⟩) 0 0) []) := OwnI.fresh (l := []) (Blk.new w _ _) (Nat.le_refl _) (by simp)
    go_enter Tryd.func40, Tryd.ntmps40
    go_wp2_with (at_builtin; refine wp_appI _ rfl (.tmp 5) (.tmp 6) rfl w.heap.size (.slice (some ⟨w.heap.size, 0, none⟩) 0 0) [] rfl hown.out ad c l rfl hbl.out (by simp; omega) (by simp) ?_; intro v1 w1 ho1 hg1 hat1)
    clear hn1
    go_wp2
    go_ret
    refine ⟨_, rfl, by simpa using ho1, ?_⟩
    refine ((Below.refl _ w).alloc (Nat.le_refl _) _).grown hg1 (by simp) ?_
    intro k hk
    have hk' : some w.heap.size = some k := hk
    injection hk' with e
    omega

/-! ### A set as a word -/
theorem pow_u64 {k : Nat} (h : k < 64) : IntKind.u64.wrap (2 ^ k) = ((2 ^ k : Nat) : Int) := by
  have h1 : 2 ^ k < 2 ^ 64 := Nat.pow_lt_pow_right (by omega) h
  have h2 : (2 : Int) ^ k = ((2 ^ k : Nat) : Int) := by simp
  rw [IntKind.wrap_u64, h2]
  generalize 2 ^ k = b at *
  omega
theorem or_u64 {a k : Nat} (ha : a < 2 ^ 64) (h : k < 64) : bits .or .u64 (a : Int) (IntKind.u64.wrap (2 ^ k)) = ((a ||| 2 ^ k : Nat) : Int) := by
  have h1 : 2 ^ k < 2 ^ 64 := Nat.pow_lt_pow_right (by omega) h
  rw [pow_u64 h]
  exact bits_or_u64_nat a (2 ^ k) (by simpa using ha) (by simpa using h1)
theorem wordN_take (l : List Int) (k : Nat) (hk : k < l.length) : wordN (l.take (k + 1)) = wordN (l.take k) ||| 2 ^ l[k].toNat := by
  unfold wordN
  rw [List.take_add_one, List.getElem?_eq_getElem hk, List.foldl_append]
  rfl
set_option maxRecDepth 100000 in
set_option maxHeartbeats 1000000 in
theorem word_any (A : Option Addr) (c : Nat) (l : List Int) (w : World) (hl : l.length ≤ maxLen) (h : SlR w w.heap.size A l) (hb : ∀ x ∈ l, 0 ≤ x ∧ x < 64) :
    Calls Tryd.prog 39 #[.slice A l.length c] w fun e w' => e = .returned (.int .u64 (wordN l : Nat)) ∧ w = w' := by
  unfold maxLen at hl
  have HT := hid (wordN_take l)
  have HW := hid (fun k => word_lt (s := l.take k) (k := 64) (fun p hp => hb p (List.mem_of_mem_take hp)))
  go_enter Tryd.func39, Tryd.ntmps39
  go_wp2_with fail
  go_loopw [3, 8] (fun a i wr => ∃ k : Nat, k ≤ l.length ∧ i = .int .i64 k ∧ w = wr ∧ a = .int .u64 (wordN (l.take k) : Nat)) (fun _ i _ => l.length - (intOf i).toNat)
  case atStart => exact ⟨0, by omega, rfl, rfl, rfl⟩
  case round =>
    obtain ⟨k, hk, rfl, rfl, rfl⟩ := hrel
    by_cases hlt : k < l.length
    · have hlt' : (k : Int) < l.length := by omega
      obtain ⟨b, off, rfl, hz, hc0, hi0⟩ := h.int hlt
      have hx := hb _ (List.getElem_mem hlt)
      have hw2 := HW.out k
      have ht := hid (HT.out k hlt)
      clear hi0
      generalize l[k] = x at *
      obtain ⟨q, rfl⟩ : ∃ q : Nat, x = q := ⟨x.toNat, by omega⟩
      have hor := or_u64 hw2 (show q < 64 by omega)
      have hq0 : (0 : Int) ≤ q := by omega
      have hq1 : (q : Int) ≤ 64 := by omega
      generalize wordN (l.take k) = a at *
      go_wp2_with fail
      go_roundw
      case rel => exact ⟨k + 1, by omega, by go_num, by first | trivial | rfl, by rw [ht.out, Int.toNat_natCast, ← hor]⟩
      case measure => simp [intOf]; omega
    · obtain rfl : k = l.length := by omega
      rw [List.take_length]
      go_wp2_with fail
      go_ret
      exact ⟨rfl, rfl⟩

/-! ### Enabled -/
/-- Is the t-th transition enabled? -/
def lowF (m : List Int) (p : Int) : Bool := decide (m.getD p.toNat 0 < 1)
def enN (T : List Tr) (m : List Int) (t : Int) : Bool := decide (0 ≤ t) && decide (t < T.length) && !(T.getD t.toNat ([], [])).1.any (lowF m)
theorem low_any (B : Option Addr) (d : Nat) (m : List Int) (gm : Nat) (x : Int) (w : World) (hm : m.length ≤ maxLen) (h : SlR w w.heap.size B m) (hx : 0 ≤ x ∧ x < m.length) (xm : Blk w gm 25 #[.slice B m.length d]) :
    Calls Tryd.prog 47 #[.int .i64 x, .pointer (some ⟨gm, 0, none⟩)] w fun e w' => e = .returned (.bool (lowF m x)) ∧ Below w.heap.size w w' := by
  unfold maxLen at hm
  obtain ⟨q, rfl⟩ : ∃ q : Nat, x = q := ⟨x.toNat, by omega⟩
  have hq : q < m.length := by omega
  have hq' : (q : Int) < m.length := by omega
  obtain ⟨b, off, rfl, hb, h1, _⟩ := h.int hq
  have y1 := xm.cell 0; have z1 := xm.lt
  simp at y1
  have hbf := hid (show lowF m q = decide (m[q] < 1) by simp [lowF, hq])
  clear h xm hx
  generalize m[q] = u at *
  go_enter Tryd.func47, Tryd.ntmps47
  go_wp2_with fail
  go_ret
  exact ⟨ret_bool hbf.out.symm, Below.refl _ _⟩
set_option maxRecDepth 100000 in
set_option maxHeartbeats 2000000 in
theorem enabled_any (n : Int) (A : Option Addr) (c : Nat) (T : List Tr) (B : Option Addr) (d : Nat) (m : List Int) (t : Int) (w : World) (hl : T.length ≤ maxLen) (h : SlR w w.heap.size A T) (hm : m.length ≤ maxLen) (hM : SlR w w.heap.size B m)
    (hn : n = m.length) (hok : netOK (n, T) = true) :
    Calls Tryd.prog 26 #[.agg #[.int .i64 n, .slice A T.length c], .slice B m.length d, .int .i64 t] w fun e w' => e = .returned (.bool (enN T m t)) ∧ Below w.heap.size w w' := by
  replace hn := hid hn
  obtain ⟨w1, hw1⟩ : ∃ w1, w1 = (w.alloc (Obj.cells #[.int .i64 n, .slice A T.length c] 24)) := ⟨_, rfl⟩
  obtain ⟨w2, hw2⟩ : ∃ w2, w2 = (w1.alloc (Obj.cells #[.slice B m.length d] 25)) := ⟨_, rfl⟩
  have s1 : w1.heap.size = w.heap.size + 1 := by rw [hw1]; simp
  have s2 : w2.heap.size = w.heap.size + 1 + 1 := by rw [hw2]; simp [s1]
  have B2 : Below w.heap.size w w2 := by rw [hw2, hw1]; (repeat (first | exact Below.refl _ _ | assumption | refine below_drewN ?_ _ | refine Below.drew ?_ | refine Below.alloc ?_ (by (try simp); (try omega)) _ | refine Below.setCell ?_ (by (try simp); (try omega)) _))
  have x1 : Blk w2 w.heap.size 24 #[.int .i64 n, .slice A T.length c] := by rw [hw2, hw1]; exact ((Blk.new w _ _).alloc _)
  have x2 : Blk w2 (w.heap.size + 1) 25 #[.slice B m.length d] := by rw [hw2]; exact (Blk.new_at (by rw [s1]))
  have y1 := x1.cell 1; have z1 := x1.lt; have z2 := x2.lt
  simp at y1
  have X2 := hid x2
  have HB2 := hid B2
  clear x1 x2
  by_cases h0 : t < 0
  · have hr := hid (show enN T m t = false by have : ¬ 0 ≤ t := by omega
                                              simp [enN, this])
    unfold maxLen at hl hm
    go_enter Tryd.func26, Tryd.ntmps26
    go_upto_region 1 with fail
    rw [← hw1, ← hw2]
    clear hw1 hw2 B2
    go_wp2_with fail
    go_ret
    exact ⟨ret_bool hr.out.symm, HB2.out⟩
  by_cases hT : (T.length : Int) ≤ t
  · have hr := hid (show enN T m t = false by have : ¬ t < T.length := by omega
                                              simp [enN, this])
    unfold maxLen at hl hm
    go_enter Tryd.func26, Tryd.ntmps26
    go_upto_region 1 with fail
    rw [← hw1, ← hw2]
    clear hw1 hw2 B2
    go_wp2_with fail
    go_ret
    exact ⟨ret_bool hr.out.symm, HB2.out⟩
  obtain ⟨q, rfl⟩ : ∃ q : Nat, t = q := ⟨t.toNat, by omega⟩
  have hq : q < T.length := by omega
  have hq' : (q : Int) < T.length := by omega
  have hset : setB n T[q].1 = true := by
    simp only [netOK, Bool.and_eq_true, List.all_eq_true] at hok
    exact (hok.2 _ (List.getElem_mem hq)).1
  obtain ⟨b, off, A1, c1, A2, c2, rfl, hb, g0, g1, hs1, hs2, hl1, hl2⟩ := h.tr hq
  have g0' := (bcell B2 b _ hb).trans g0
  have hz : b < w2.heap.size := by omega
  have HC := hid (cti_any 47 #[.pointer (some ⟨w.heap.size + 1, 0, none⟩)] (enters_of Tryd.func47 (by kernel_rfl) rfl) A1 c1 T[q].1 (lowF m) w2 hl1 ((hs1.below B2).more B2.size) (fun x W hx hW => by
    have hW0 := B2.trans (hW.mono B2.size)
    refine (low_any B d m _ x W hm ((hM.below hW0).more hW0.size) ?_ (X2.out.below hW X2.out.lt)).mono (fun e w' ⟨he, hb⟩ => ⟨he, hW.trans (hb.mono hW.size)⟩)
    have := setB_mem hset x hx
    rw [hn.out] at this
    exact this))
  have hr := hid (show enN T m q = !T[q].1.any (lowF m) by simp [enN, hq])
  clear h hs1 hs2 g1 hset hok
  generalize T[q].1 = I at *
  unfold maxLen at hl hm hl1
  go_enter Tryd.func26, Tryd.ntmps26
  go_upto_region 1 with fail
  rw [← hw1, ← hw2]
  clear hw1 hw2 B2 g0
  go_wp2_with fail
  refine HC.out.mono ?_
  rintro e w3 ⟨rfl, hB3⟩
  have HB := hid (HB2.out.trans (hB3.mono HB2.out.size))
  clear hB3 HC
  go_wp2_with fail
  go_ret
  exact ⟨ret_bool hr.out.symm, HB.out⟩
end Go.Proofs.YtbbogflibekgfaaDoor
