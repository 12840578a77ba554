
/- Petri: edges in memory; IndexFunc and ContainsFunc over them; closed. -/
import Derived.Test.YtbbogflibekgfaaDoorPetD
set_option linter.unusedSimpArgs false
set_option linter.unusedVariables false
namespace Go.Proofs.YtbbogflibekgfaaDoor
open Go.RowKit Go.IntWalk Go.Shelf

/-- A word: an unsigned number of 64 bits. -/
instance : Rep Nat := ⟨1, fun _ _ cs n => cs = [.int .u64 (n : Nat)] ∧ n < 2 ^ 64, fun _ _ h => h⟩
theorem SlR.ed {w : World} {B : Nat} {A : Option Addr} {l : List Ed} (h : SlR w B A l) {k : Nat} (hk : k < l.length) : ∃ b off, A = some ⟨b, off, none⟩ ∧ b < B ∧
    w.cell? ⟨b, off + k * 2, none⟩ = some (.int .u64 (l[k].1 : Nat)) ∧ w.cell? ⟨b, off + k * 2 + 1, none⟩ = some (.int .u64 (l[k].2 : Nat)) := by
  obtain ⟨b, off, es, hA, hb, hs, hc, e1, e2, rfl, _, _, ⟨rfl, _⟩, rfl, _⟩ := h k _ (List.getElem?_eq_getElem hk)
  have h4 : Rep.size Ed = 2 := rfl
  rw [h4] at hc
  exact ⟨b, off, hA, hb, by simpa using hc 0 _ rfl, by simpa using hc 1 _ rfl⟩
def edRK : RK Ed where
  e := 65
  t := 49
  size := 2
  bytes := 16
  z := .agg #[.int .u64 0, .int .u64 0]
  cs x := [.int .u64 (x.1 : Nat), .int .u64 (x.2 : Nat)]
  ok x := x.1 < 2 ^ 64 ∧ x.2 < 2 ^ 64
  und := Tryd.underlying49
  info := by kernel_rfl
  zcs := rfl
  pos := by omega
  small := by omega
  len _ := rfl
  one x v hv := by simp at hv; rcases hv with rfl | rfl <;> rfl
  rsz := rfl
  rep w B x h := ⟨[.int .u64 (x.1 : Nat)], [.int .u64 (x.2 : Nat)], rfl, rfl, rfl, ⟨rfl, h.1⟩, rfl, h.2⟩
  inv w B c x h := by obtain ⟨c1, c2, rfl, _, _, ⟨rfl, i0⟩, rfl, i1⟩ := h; exact ⟨rfl, i0, i1⟩
set_option maxRecDepth 100000 in
set_option maxHeartbeats 1000000 in
theorem ixe_any (gf : Nat) (lb : Array Value) (eg : ∀ args w, (callFunc gf args).run Tryd.prog w = .ok (.enter gf args) w) (A : Option Addr) (c : Nat) (l : List Ed) (f : Ed → Bool) (w : World) (hl : l.length ≤ maxLen) (h : SlR w w.heap.size A l)
    (hp : ∀ (x : Ed) (W : World), x ∈ l → Below w.heap.size w W → Calls Tryd.prog gf (#[.agg #[.int .u64 (x.1 : Nat), .int .u64 (x.2 : Nat)]] ++ lb) W fun e w' => e = .returned (.bool (f x)) ∧ Below w.heap.size w w') :
    Calls Tryd.prog 67 #[.slice A l.length c, .func (.func gf) #[] lb] w fun e w' => ∃ r : Int, e = .returned (.int .i64 r) ∧ (0 ≤ r ↔ l.any f = true) ∧ Below w.heap.size w w' := by
  unfold maxLen at hl
  have HP := hid hp
  clear hp
  go_enter Tryd.func67, Tryd.ntmps67
  go_wp2_with fail
  go_loopw [8] (fun i wr => ∃ k : Nat, k ≤ l.length ∧ i = .int .i64 k ∧ Below w.heap.size w wr ∧ (l.take k).any f = false) (fun i _ => l.length - (intOf i).toNat)
  case atStart => exact ⟨0, by omega, rfl, Below.refl _ _, by simp⟩
  case round =>
    obtain ⟨k, hk, rfl, hB, ht⟩ := hrel
    have HB := hid hB
    have HT := hid ht
    by_cases hlt : k < l.length
    · have hlt' : (k : Int) < l.length := by omega
      obtain ⟨b, off, rfl, hb, g0, g1⟩ := h.ed hlt
      replace g0 := (bcell hB b _ hb).trans g0
      replace g1 := (bcell hB b _ hb).trans g1
      have hz : b < wr.heap.size := by have := hB.size; omega
      have HC := hid (HP.out l[k] wr (List.getElem_mem hlt) hB)
      have hyes := hid (fun (hq : f l[k] = true) => show l.any f = true from List.any_eq_true.2 ⟨l[k], List.getElem_mem hlt, hq⟩)
      have hno := hid (fun (hq : f l[k] = false) => show (l.take (k + 1)).any f = false from by rw [List.take_add_one, List.getElem?_eq_getElem hlt, List.any_append, ht]; simp [hq])
      clear hB ht
      generalize l[k] = x at *
      obtain ⟨x1, x2⟩ := x
      simp only at g0 g1 HC
      cases hq : f (x1, x2) with
      | true =>
        have HQ := hid hq
        rw [hq] at HC
        clear hq
        as_aux_lemma =>
          go_wp2_with fail
          refine HC.out.mono ?_
          rintro e w9 ⟨rfl, hB9⟩
          have HB9 := hid hB9
          clear hB9
          go_wp2_with fail
          go_ret
          exact ⟨k, rfl, ⟨fun _ => hyes.out HQ.out, fun _ => by omega⟩, HB9.out⟩
      | false =>
        have HQ := hid hq
        rw [hq] at HC
        clear hq
        as_aux_lemma =>
          go_wp2_with fail
          refine HC.out.mono ?_
          rintro e w9 ⟨rfl, hB9⟩
          have HB9 := hid hB9
          clear hB9
          go_wp2_with fail
          go_roundw
          case rel => exact ⟨k + 1, by omega, by go_num, HB9.out, hno.out HQ.out⟩
          case measure => simp [intOf]; omega
    · obtain rfl : k = l.length := by omega
      have hall := hid (show l.any f = false by rw [← ht, List.take_length])
      clear hB ht
      go_wp2_with fail
      go_ret
      exact ⟨-1, rfl, by rw [hall.out]; simp, HB.out⟩
theorem cte_any (gf : Nat) (lb : Array Value) (eg : ∀ args w, (callFunc gf args).run Tryd.prog w = .ok (.enter gf args) w) (A : Option Addr) (c : Nat) (l : List Ed) (f : Ed → Bool) (w : World) (hl : l.length ≤ maxLen) (h : SlR w w.heap.size A l)
    (hp : ∀ (x : Ed) (W : World), x ∈ l → Below w.heap.size w W → Calls Tryd.prog gf (#[.agg #[.int .u64 (x.1 : Nat), .int .u64 (x.2 : Nat)]] ++ lb) W fun e w' => e = .returned (.bool (f x)) ∧ Below w.heap.size w w') :
    Calls Tryd.prog 53 #[.slice A l.length c, .func (.func gf) #[] lb] w fun e w' => e = .returned (.bool (l.any f)) ∧ Below w.heap.size w w' := by
  have HI := hid (ixe_any gf lb eg A c l f w hl h hp)
  clear hp h
  unfold maxLen at hl
  go_enter Tryd.func53, Tryd.ntmps53
  go_wp2_with fail
  refine HI.out.mono ?_
  rintro e w2 ⟨r, rfl, hr, hB⟩
  have HR := hid hr
  have HB := hid hB
  clear hr hB
  go_wp2_with fail
  go_ret
  refine ⟨ret_bool ?_, HB.out⟩
  have := HR.out
  cases hx : l.any f with
  | true => rw [hx] at this; simpa using this
  | false => rw [hx] at this; simp at this ⊢; omega

theorem nat_u64 {a : Nat} : (decide ((a : Int) = 0)) = decide (a = 0) := decide_eq_decide.2 (by omega)
set_option maxRecDepth 100000 in
set_option maxHeartbeats 1000000 in
theorem hit_any (gw v : Nat) (x : Ed) (w : World) (hx : x.1 < 2 ^ 64 ∧ x.2 < 2 ^ 64) (hv : v < 2 ^ 64) (xw : Blk w gw 52 #[.int .u64 (v : Nat)]) :
    Calls Tryd.prog 54 #[.agg #[.int .u64 (x.1 : Nat), .int .u64 (x.2 : Nat)], .pointer (some ⟨gw, 0, none⟩)] w fun e w' => e = .returned (.bool (hit v x)) ∧ Below w.heap.size w w' := by
  obtain ⟨a, b⟩ := x
  simp only at *
  have hB1 := hid (show Below w.heap.size w (w.alloc (Obj.cells #[.int .u64 (a : Nat), .int .u64 (b : Nat)] 65)) by (repeat (first | exact Below.refl _ _ | assumption | refine below_drewN ?_ _ | refine Below.drew ?_ | refine Below.alloc ?_ (by (try simp); (try omega)) _ | refine Below.setCell ?_ (by (try simp); (try omega)) _)))
  have X1 := hid (Blk.new w 65 #[.int .u64 (a : Nat), .int .u64 (b : Nat)])
  have y1 := (xw.below hB1.out xw.lt).cell 0; have z1 := xw.lt
  simp at y1
  have b1 := bits_and_u64_nat a v (by simpa using hx.1) (by simpa using hv)
  have b2 := bits_and_u64_nat b v (by simpa using hx.2) (by simpa using hv)
  have hbf := hid (show hit v (a, b) = (decide (a &&& v ≠ 0) && decide (b &&& v = 0)) from rfl)
  clear xw
  go_enter Tryd.func54, Tryd.ntmps54
  go_upto_region 1 with fail
  generalize hw1 : w.alloc (Obj.cells #[.int .u64 (a : Nat), .int .u64 (b : Nat)] 65) = w1 at *
  have hz9 : gw < w1.heap.size := by have := hB1.out.size; omega
  have hz8 : w.heap.size < w1.heap.size := by rw [← hw1]; simp
  clear hw1
  have y2 := X1.out.cell 0
  have y3 := X1.out.cell 1
  simp at y2 y3
  by_cases h1 : a &&& v = 0
  · have h1i : (((a &&& v : Nat) : Int) = 0) := by omega
    go_wp2_with fail
    go_ret
    exact ⟨ret_bool (by rw [hbf.out]; simp [h1]), hB1.out⟩
  · have h1i : ¬ (((a &&& v : Nat) : Int) = 0) := by omega
    go_wp2_with fail
    go_ret
    exact ⟨ret_bool (by
      rw [hbf.out, Bool.eq_iff_iff]
      simp [h1]), hB1.out⟩
set_option maxRecDepth 100000 in
set_option maxHeartbeats 1000000 in
theorem closed_any (A : Option Addr) (c : Nat) (l : List Ed) (v : Nat) (w : World) (hl : l.length ≤ maxLen) (h : SlR w w.heap.size A l) (hv : v < 2 ^ 64) (he : ∀ x ∈ l, x.1 < 2 ^ 64 ∧ x.2 < 2 ^ 64) :
    Calls Tryd.prog 37 #[.slice A l.length c, .int .u64 (v : Nat)] w fun e w' => e = .returned (.bool (closedN l v)) ∧ Below w.heap.size w w' := by
  have hB1 := hid (show Below w.heap.size w (w.alloc (Obj.cells #[.int .u64 (v : Nat)] 52)) by (repeat (first | exact Below.refl _ _ | assumption | refine below_drewN ?_ _ | refine Below.drew ?_ | refine Below.alloc ?_ (by (try simp); (try omega)) _ | refine Below.setCell ?_ (by (try simp); (try omega)) _)))
  have X1 := hid (Blk.new w 52 #[.int .u64 (v : Nat)])
  have HC := hid (cte_any 54 #[.pointer (some ⟨w.heap.size, 0, none⟩)] (enters_of Tryd.func54 (by kernel_rfl) rfl) A c l (hit v) _ hl ((h.below hB1.out).more hB1.out.size) (fun x W hx hW =>
    (hit_any _ v x W (he x hx) hv (X1.out.below hW X1.out.lt)).mono (fun e w' ⟨he, hb⟩ => ⟨he, hW.trans (hb.mono hW.size)⟩)))
  have HN := hid (show closedN l v = (decide (v ≠ 0) && !l.any (hit v)) from rfl)
  clear h he
  unfold maxLen at hl
  go_enter Tryd.func37, Tryd.ntmps37
  go_upto_region 1 with fail
  generalize hw1 : w.alloc (Obj.cells #[.int .u64 (v : Nat)] 52) = w1 at *
  have hz8 : w.heap.size < w1.heap.size := by rw [← hw1]; simp
  clear hw1
  have y2 := X1.out.cell 0
  simp at y2
  by_cases h1 : v = 0
  · subst h1
    go_wp2_with fail
    go_ret
    exact ⟨ret_bool (by rw [HN.out]; simp), hB1.out⟩
  · have h1i : ¬ ((v : Int) = 0) := by omega
    go_wp2_with (go_at_call 53; refine HC.out.mono ?_; rintro e w2 ⟨rfl, hB2⟩)
    have HB := hid (hB1.out.trans (hB2.mono hB1.out.size))
    clear hB2 HC
    go_wp2_with fail
    go_ret
    exact ⟨ret_bool (by rw [HN.out]; simp [h1]), HB.out⟩
end Go.Proofs.YtbbogflibekgfaaDoor
