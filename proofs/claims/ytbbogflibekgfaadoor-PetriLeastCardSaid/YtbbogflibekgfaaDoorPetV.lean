
/- Petri: the laws' pick, within. -/
import Derived.Test.YtbbogflibekgfaaDoorPetU
set_option linter.unusedSimpArgs false
set_option linter.unusedVariables false
namespace Go.Proofs.YtbbogflibekgfaaDoor
open Go.RowKit Go.IntWalk Go.Shelf

/-- Is a bit of a number set? -/
def bitI (b : Int) (i : Nat) : Bool := decide (b / 2 ^ i % 2 = 1)
def pickN (b : Int) (k : Nat) : List Int := ((List.range k).filter (fun i => bitI b i)).map (fun (i : Nat) => (i : Int))
theorem pickN_succ (b : Int) (k : Nat) : pickN b (k + 1) = if bitI b k = true then pickN b k ++ [(k : Int)] else pickN b k := by
  unfold pickN
  rw [List.range_succ, List.filter_append, List.map_append]
  split
  · rename_i h; simp [h]
  · rename_i h; simp [h]
theorem pickN_len (b : Int) (k : Nat) : (pickN b k).length ≤ k := by
  unfold pickN
  rw [List.length_map]
  exact Nat.le_trans (List.length_filter_le _ _) (by simp)
theorem pickN_mem {b : Int} {k : Nat} {x : Int} : x ∈ pickN b k ↔ 0 ≤ x ∧ x < k ∧ bitI b x.toNat = true := by
  unfold pickN
  rw [List.mem_map]
  constructor
  · rintro ⟨i, hi, rfl⟩
    rw [List.mem_filter, List.mem_range] at hi
    exact ⟨by omega, by omega, by simpa using hi.2⟩
  · rintro ⟨h0, h1, h2⟩
    exact ⟨x.toNat, List.mem_filter.2 ⟨List.mem_range.2 (by omega), h2⟩, by omega⟩
theorem pickN_pw (b : Int) (k : Nat) : (pickN b k).Pairwise (· < ·) := by
  unfold pickN
  exact List.Pairwise.map (R := (· < ·)) _ (fun a b h => by omega) (List.Pairwise.filter _ List.pairwise_lt_range)
theorem pickN_set (b : Int) (k : Nat) : setB k (pickN b k) = true := setB_of (pickN_pw b k) (fun x hx => by have := pickN_mem.1 hx; omega)
theorem and_one (y : Int) : bits .and .i64 y 1 = y % 2 := by
  show IntKind.i64.wrap ((BitVec.ofInt 64 y &&& 1#64).toNat : Int) = y % 2
  rw [BitVec.toNat_and, show (1#64).toNat = 1 from rfl, Nat.and_one_is_mod, BitVec.toNat_ofInt, IntKind.wrap_i64]
  omega
set_option maxRecDepth 100000 in
set_option maxHeartbeats 2000000 in
theorem pick_any (b : Int) (n : Nat) (w : World) (hn : n ≤ 64) :
    Calls Tryd.prog 14 #[.int .i64 b, .int .i64 (n : Nat)] w fun e w' => ∃ A' c', e = .returned (.slice A' (pickN b n).length c') ∧ OwnI w' w.heap.size (.slice A' (pickN b n).length c') (pickN b n) ∧ Below w.heap.size w w' := by
  go_enter Tryd.func14, Tryd.ntmps14
  go_upto_region 3 with fail
  go_loopw [5, 6] (fun v i wr => ∃ (k : Nat) (A9 : Option Addr) (c9 : Nat), k ≤ n ∧ i = .int .i64 k ∧ v = .slice A9 (pickN b k).length c9 ∧ OwnI wr w.heap.size (.slice A9 (pickN b k).length c9) (pickN b k) ∧ Below w.heap.size w wr) (fun _ i _ => n - (intOf i).toNat)
  case atStart => exact ⟨0, none, 0, by omega, rfl, rfl, OwnI.nil _ _, Below.refl _ _⟩
  case round =>
    obtain ⟨k, A9, c9, hk, rfl, rfl, ho, hB⟩ := hrel
    have HO := hid ho
    have HB := hid hB
    by_cases hlt : k < n
    · have hlt' : (k : Int) < n := by omega
      have hsu := hid (pickN_succ b k)
      have hlk := pickN_len b k
      have hand := and_one (b / 2 ^ k)
      have hbit := hid (show bitI b k = decide (b / 2 ^ k % 2 = 1) from rfl)
      clear ho hB
      generalize pickN b k = L at *
      by_cases hq : b / 2 ^ k % 2 = 1
      · have hsu2 := hid (show pickN b (k + 1) = L ++ [(k : Int)] by rw [hsu.out, if_pos (by rw [hbit.out]; exact decide_eq_true hq)])
        go_upto_region 6 with fail
        have hX := hid (Blk.new wr 3 #[.int .i64 (k : Nat)])
        have hcell := hX.out.cell 0
        simp only [List.getElem?_toArray, List.getElem?_cons_zero] at hcell
        have hcl := hid hcell
        have hbase := hid (HB.out.size)
        clear hcell hq hand
        go_wp2_with (at_builtin; refine wp_appK _ rfl (.tmp 17) (.tmp 19) rfl w.heap.size (.slice A9 L.length c9) L rfl (HO.out.alloc _) _ 1 (k : Nat) rfl hcl.out (by omega) (by have := hbase.out; simp; omega) ?_; intro A8 c8 w9 ho9 hg9 hd9)
        have B9 := hid (show Below w.heap.size w w9 from (HB.out.alloc HB.out.size _).grown hg9 (by have := hbase.out; simp; omega) (fun g hg => (HO.out.lt g hg).1))
        have HO9 := hid ho9
        clear ho9 hg9 hd9
        go_wp2_with fail
        go_roundw
        case rel => exact ⟨k + 1, A8, c8, by omega, by go_num, by rw [hsu2.out]; simp, by rw [hsu2.out]; simpa using HO9.out, B9.out⟩
        case measure => simp [intOf]; omega
      · have hsu2 := hid (show pickN b (k + 1) = L by rw [hsu.out, if_neg (by rw [hbit.out]; simp [hq])])
        have hq2 : (b / 2 ^ k % 2 == 1) = false := by simp [hq]
        clear hq
        go_wp2_with fail
        go_roundw
        case rel => exact ⟨k + 1, A9, c9, by omega, by go_num, by rw [hsu2.out], by rw [hsu2.out]; exact HO.out, HB.out⟩
        case measure => simp [intOf]; omega
    · obtain rfl : k = n := by omega
      clear ho hB
      go_wp2_with fail
      go_ret
      exact ⟨A9, c9, rfl, HO.out, HB.out⟩
def withinN (a b : List Int) : Bool := a.all (fun x => meetsN [x] b)
theorem within_mem {a b : List Int} : withinN a b = true ↔ ∀ x ∈ a, x ∈ b := by
  unfold withinN
  rw [List.all_eq_true]
  refine ⟨fun h x hx => ?_, fun h x hx => ?_⟩
  · have := h x hx
    simpa [meetsN] using this
  · have := h x hx
    simpa [meetsN] using this
theorem SlR.one {w : World} {B b off : Nat} {l : List Int} (h : SlR w B (some ⟨b, off, none⟩) l) {k : Nat} (hk : k < l.length) : SlR w B (some ⟨b, off + k, none⟩) [l[k]] := by
  intro j x hx
  obtain ⟨hj, rfl⟩ := List.getElem?_eq_some_iff.1 hx
  have hj0 : j = 0 := by simpa using hj
  subst hj0
  obtain ⟨b', off', es, hA, hb, hs, hc, hr⟩ := h k _ (List.getElem?_eq_getElem hk)
  injection hA with hA
  injection hA with e1 e2 _
  subst e1 e2
  refine ⟨b, off + k, es, rfl, hb, hs, fun i u hu => ?_, hr⟩
  have h1 : Rep.size Int = 1 := rfl
  have := hc i u hu
  rw [h1] at this ⊢
  rwa [show off + k + 0 * 1 + i = off + k * 1 + i by omega]
set_option maxRecDepth 100000 in
set_option maxHeartbeats 2000000 in
theorem within_any (A B : Option Addr) (c d : Nat) (a b : List Int) (w : World) (hl : a.length ≤ c) (hc : c ≤ maxLen) (hm : b.length ≤ maxLen) (h1 : SlR w w.heap.size A a) (h2 : SlR w w.heap.size B b) :
    Calls Tryd.prog 17 #[.slice A a.length c, .slice B b.length d] w fun e w' => e = .returned (.bool (withinN a b)) ∧ Below w.heap.size w w' := by
  have H2 := hid h2
  have H1 := hid h1
  have hm2 := hid hm
  unfold maxLen at hc hm
  clear h1 h2 hm
  go_enter Tryd.func17, Tryd.ntmps17
  go_upto_region 2 with fail
  go_loopw [5] (fun i wr => ∃ k : Nat, k ≤ a.length ∧ i = .int .i64 k ∧ (a.take k).all (fun x => meetsN [x] b) = true ∧ Below w.heap.size w wr) (fun i _ => a.length - (intOf i).toNat)
  case atStart => exact ⟨0, by omega, rfl, by simp, Below.refl _ _⟩
  case round =>
    obtain ⟨k, hk, rfl, ha, hB⟩ := hrel
    have HA := hid ha
    have HB := hid hB
    clear ha hB
    by_cases hlt : k < a.length
    · have hlt' : (k : Int) < a.length := by omega
      obtain ⟨b1, off, rfl, hb1, _, _⟩ := H1.out.int hlt
      have hc1 : k + 1 ≤ c := by omega
      have HME := hid (show Calls Tryd.prog 18 #[.slice (some ⟨b1, off + k, none⟩) 1 (c - k), .slice B b.length d] wr fun e w' => e = .returned (.bool (meetsN [a[k]] b)) ∧ Below wr.heap.size wr w' from
        meets_any (some ⟨b1, off + k, none⟩) B (c - k) d [a[k]] b wr (by simp [maxLen]) hm2.out (((H1.out.one hlt).below HB.out).more HB.out.size) ((H2.out.below HB.out).more HB.out.size))
      have hst := hid (show (a.take (k + 1)).all (fun x => meetsN [x] b) = meetsN [a[k]] b by rw [List.take_add_one, List.getElem?_eq_getElem hlt, List.all_append, HA.out]; simp)
      have hno := hid (show meetsN [a[k]] b = false → withinN a b = false from fun h => by
        unfold withinN
        rw [List.all_eq_false]
        exact ⟨a[k], List.getElem_mem hlt, by rw [h]; simp⟩)
      generalize meetsN [a[k]] b = q at *
      go_upto_region 4 with fail
      cases q with
      | true =>
        go_wp2_with (go_at_call 18; refine HME.out.mono ?_; rintro e w5 ⟨rfl, hB5⟩)
        have HB5 := hid (HB.out.trans (hB5.mono HB.out.size))
        clear hB5
        go_roundw
        case rel => exact ⟨k + 1, by omega, by go_num, hst.out, HB5.out⟩
        case measure => simp [intOf]; omega
      | false =>
        go_wp2_with (go_at_call 18; refine HME.out.mono ?_; rintro e w5 ⟨rfl, hB5⟩)
        have HB5 := hid (HB.out.trans (hB5.mono HB.out.size))
        clear hB5
        go_ret
        exact ⟨ret_bool (by simpa using hno.out), HB5.out⟩
    · obtain rfl : k = a.length := by omega
      have hall := hid (show withinN a b = true by have := HA.out; rw [List.take_length] at this; exact this)
      clear HA
      go_wp2_with fail
      go_ret
      exact ⟨ret_bool hall.out.symm, HB.out⟩
end Go.Proofs.YtbbogflibekgfaaDoor
