
/- Petri: the reference's Few. -/
import Derived.Test.YteljfpcmpdpehaaGreatDoorPhB
set_option linter.unusedSimpArgs false
set_option linter.unusedVariables false
namespace Go.Proofs.YteljfpcmpdpehaaGreatDoor
open Go.RowKit Go.IntWalk Go.Shelf

theorem take_snoc_eq {α : Type} {l m : List α} {k : Nat} (hl : k < l.length) (hm : k < m.length) (h : l.take k = m.take k) (he : l[k] = m[k]) : l.take (k + 1) = m.take (k + 1) := by
  rw [List.take_add_one, List.take_add_one, List.getElem?_eq_getElem hl, List.getElem?_eq_getElem hm, h, he]
theorem take_snoc_ne {α : Type} {l m : List α} {k : Nat} (hl : k < l.length) (hm : k < m.length) (he : l[k] ≠ m[k]) : l ≠ m := fun e => he (by subst e; rfl)
set_option maxRecDepth 100000 in
set_option maxHeartbeats 1000000 in
theorem same_any (A B : Option Addr) (c d : Nat) (l m : List Int) (w : World) (hl : l.length ≤ maxLen) (hm : m.length ≤ maxLen) (h1 : SlR w w.heap.size A l) (h2 : SlR w w.heap.size B m) :
    Calls Tryz.prog 16 #[.slice A l.length c, .slice B m.length d] w fun e w' => e = .returned (.bool (decide (l = m))) ∧ Below w.heap.size w w' := by
  unfold maxLen at hl hm
  by_cases hne : l.length = m.length
  case neg =>
    have hne' : ¬ (l.length : Int) = m.length := by omega
    have hr := hid (show decide (l = m) = false by have : l ≠ m := (fun e => hne (by rw [e])); simp [this])
    clear hne
    go_enter Tryz.func16, Tryz.ntmps16
    go_wp2_with fail
    go_ret
    exact ⟨ret_bool hr.out.symm, Below.refl _ _⟩
  have HN := hid hne
  have hne' : (l.length : Int) = m.length := by omega
  clear hne
  go_enter Tryz.func16, Tryz.ntmps16
  go_wp2_with fail
  go_loopw [5] (fun i wr => ∃ k : Nat, k ≤ m.length ∧ i = .int .i64 k ∧ Below w.heap.size w wr ∧ l.take k = m.take k) (fun i _ => m.length - (intOf i).toNat)
  case atStart => exact ⟨0, by omega, rfl, Below.refl _ _, by simp⟩
  case round =>
    obtain ⟨k, hk, rfl, hB, ht⟩ := hrel
    have HB := hid hB
    have HT := hid ht
    by_cases hlt : k < m.length
    · have hlt' : (k : Int) < m.length := by omega
      have hkl : k < l.length := by have := HN.out; omega
      obtain ⟨b1, o1, rfl, hb1, c1, _⟩ := h1.int hkl
      obtain ⟨b2, o2, rfl, hb2, c2, _⟩ := h2.int hlt
      replace c1 := (bcell hB b1 _ hb1).trans c1
      replace c2 := (bcell hB b2 _ hb2).trans c2
      have z1 : b1 < wr.heap.size := by have := hB.size; omega
      have z2 : b2 < wr.heap.size := by have := hB.size; omega
      have HE := hid (fun (e : l[k] = m[k]) => take_snoc_eq hkl hlt ht e)
      have HNE := hid (fun (e : l[k] ≠ m[k]) => take_snoc_ne hkl hlt e)
      clear hB ht
      generalize l[k] = x at *
      generalize m[k] = y at *
      by_cases hxy : x = y
      · subst hxy
        as_aux_lemma =>
          go_wp2_with fail
          go_quiet (fail)
          go_wp2_with fail
          go_roundw
          case rel => exact ⟨k + 1, by omega, by go_num, below_drewN HB.out _, HE.out (by first | trivial | rfl)⟩
          case measure => simp [intOf]; omega
      · have hr := hid (show decide (l = m) = false by have := HNE.out hxy; simp [this])
        as_aux_lemma =>
          go_wp2_with fail
          go_quiet (fail)
          go_wp2_with fail
          go_ret
          exact ⟨ret_bool hr.out.symm, below_drewN HB.out _⟩
    · obtain rfl : k = m.length := by omega
      have hr := hid (show decide (l = m) = true by
        have h5 := HT.out
        have h6 := HN.out
        rw [List.take_length, ← h6, List.take_length] at h5
        simp [h5])
      clear hB ht
      go_wp2_with fail
      go_ret
      exact ⟨ret_bool hr.out.symm, HB.out⟩

end Go.Proofs.YteljfpcmpdpehaaGreatDoor
namespace Go.Proofs.YteljfpcmpdpehaaGreatDoor
open Go.RowKit Go.IntWalk Go.Shelf

/-- The transitions below k that are enabled. -/
def liveK (T : List Tr) (m : List Int) (k : Nat) : List Int := ((List.range k).filter (fun i => enN T m (i : Nat))).map (fun (i : Nat) => (i : Int))
theorem liveK_succ (T : List Tr) (m : List Int) (k : Nat) : liveK T m (k + 1) = if enN T m (k : Nat) = true then liveK T m k ++ [(k : Int)] else liveK T m k := by
  unfold liveK
  rw [List.range_succ, List.filter_append, List.map_append]
  split
  · rename_i h; simp [h]
  · rename_i h; simp [h]
theorem liveK_len (T : List Tr) (m : List Int) (k : Nat) : (liveK T m k).length ≤ k := by
  unfold liveK
  rw [List.length_map]
  exact Nat.le_trans (List.length_filter_le _ _) (by simp)
set_option maxRecDepth 100000 in
set_option maxHeartbeats 2000000 in
theorem live_any (n : Int) (A : Option Addr) (c : Nat) (T : List Tr) (B : Option Addr) (d : Nat) (m : List Int) (w : World) (hl : T.length ≤ 5000) (h : SlR w w.heap.size A T) (hm : m.length ≤ maxLen) (hM : SlR w w.heap.size B m)
    (hn : n = m.length) (hok : netOK (n, T) = true) :
    Calls Tryz.prog 30 #[.agg #[.int .i64 n, .slice A T.length c], .slice B m.length d] w fun e w' => ∃ A' c', e = .returned (.slice A' (liveK T m T.length).length c') ∧ OwnI w' w.heap.size (.slice A' (liveK T m T.length).length c') (liveK T m T.length) ∧ Below w.heap.size w w' := by
  obtain ⟨w1, hw1⟩ : ∃ w1, w1 = (w.alloc (Obj.cells #[.int .i64 n, .slice A T.length c] 24)) := ⟨_, rfl⟩
  have B1 : Below w.heap.size w w1 := by rw [hw1]; (repeat (first | exact Below.refl _ _ | assumption | refine below_drewN ?_ _ | refine Below.drew ?_ | refine Below.alloc ?_ (by (try simp); (try omega)) _ | refine Below.setCell ?_ (by (try simp); (try omega)) _))
  have B11 : Below w1.heap.size w w1 → True := fun _ => trivial
  have x1 : Blk w1 w.heap.size 24 #[.int .i64 n, .slice A T.length c] := by rw [hw1]; exact Blk.new w _ _
  have y0 := x1.cell 0; have y1 := x1.cell 1; have z1 := x1.lt
  simp at y0 y1
  have HB1 := hid B1
  have HEN := hid (fun (t : Int) W (hW : Below w.heap.size w W) => enabled_any n A c T B d m t W (by unfold maxLen; omega) ((h.below hW).more hW.size) hm ((hM.below hW).more hW.size) hn hok)
  clear B1 B11 h hM hn hok
  unfold maxLen at hm
  go_enter Tryz.func30, Tryz.ntmps30
  go_upto_region 1 with fail
  rw [← hw1]
  have X1 := hid x1
  clear hw1 x1
  go_upto_region 3 with fail
  clear y0 y1
  go_loopw [5, 10] (fun v i wr => ∃ (k : Nat) (A9 : Option Addr) (c9 : Nat), k ≤ T.length ∧ i = .int .i64 k ∧ v = .slice A9 (liveK T m k).length c9 ∧ OwnI wr w1.heap.size (.slice A9 (liveK T m k).length c9) (liveK T m k) ∧ Below w1.heap.size w1 wr) (fun _ i _ => T.length - (intOf i).toNat)
  case atStart => exact ⟨0, none, 0, by omega, rfl, rfl, OwnI.nil _ _, Below.refl _ _⟩
  case round =>
    obtain ⟨k, A9, c9, hk, rfl, rfl, ho, hB⟩ := hrel
    have HO := hid ho
    have HB := hid hB
    have HBw := hid (HB1.out.trans (hB.mono HB1.out.size))
    by_cases hlt : k < T.length
    · have hlt' : (k : Int) < T.length := by omega
      have X1r := X1.out.below hB z1
      have y0 := X1r.cell 0; have y1 := X1r.cell 1; have z1r := X1r.lt
      simp at y0 y1
      have HE := hid (HEN.out k wr HBw.out)
      have hsu := hid (liveK_succ T m k)
      have hlk := liveK_len T m k
      clear ho hB X1r
      generalize liveK T m k = L at *
      cases hq : enN T m (k : Nat) with
      | false =>
        rw [hq] at HE hsu
        clear hq
        go_wp2_with (go_at_call 32; refine HE.out.mono ?_; rintro e w5 ⟨rfl, hB5⟩)
        have HB5 := hid (HB.out.trans (hB5.mono HB.out.size))
        have HO5 := hid (HO.out.below hB5)
        clear hB5
        go_wp2_with fail
        go_roundw
        case rel => exact ⟨k + 1, A9, c9, by omega, by go_num, by rw [hsu.out]; simp, by rw [hsu.out]; simpa using HO5.out, HB5.out⟩
        case measure => simp [intOf]; omega
      | true =>
        rw [hq] at HE hsu
        clear hq
        go_upto_region 6 with (go_at_call 32; refine HE.out.mono ?_; rintro e w5 ⟨rfl, hB5⟩)
        have HB5 := hid (HB.out.trans (hB5.mono HB.out.size))
        have HO5 := hid (HO.out.below hB5)
        have hX := hid (Blk.new w5 3 #[.int .i64 (k : Nat)])
        have hcell := hX.out.cell 0
        simp only [List.getElem?_toArray, List.getElem?_cons_zero] at hcell
        have hcl := hid hcell
        have hbase := hid (HB5.out.size)
        clear hB5 hcell
        go_wp2_with (at_builtin; refine wp_appK _ rfl (.tmp 17) (.tmp 19) rfl w1.heap.size (.slice A9 L.length c9) L rfl (HO5.out.alloc _) _ 1 (k : Nat) rfl hcl.out (by omega) (by have := hbase.out; simp; omega) ?_; intro A8 c8 w9 ho9 hg9 hd9)
        have B9 := hid (show Below w1.heap.size w1 w9 from (HB5.out.alloc HB5.out.size _).grown hg9 (by have := hbase.out; simp; omega) (fun g hg => (HO5.out.lt g hg).1))
        have HO9 := hid ho9
        clear ho9 hg9 hd9
        go_wp2_with fail
        go_roundw
        case rel => exact ⟨k + 1, A8, c8, by omega, by go_num, by rw [hsu.out]; simp, by rw [hsu.out]; simpa using HO9.out, B9.out⟩
        case measure => simp [intOf]; omega
    · obtain rfl : k = T.length := by omega
      clear ho hB
      go_wp2_with fail
      go_ret
      exact ⟨A9, c9, rfl, own_base HO.out HB1.out.size, HBw.out⟩
end Go.Proofs.YteljfpcmpdpehaaGreatDoor
namespace Go.Proofs.YteljfpcmpdpehaaGreatDoor
open Go.RowKit Go.IntWalk Go.Shelf

def sumN (ws s : List Int) : Int := (s.map (fun p => ws.getD p.toNat 0)).sum
theorem sumN_take (ws s : List Int) (k : Nat) (h : k < s.length) : sumN ws (s.take (k + 1)) = sumN ws (s.take k) + ws.getD s[k].toNat 0 := by
  unfold sumN
  rw [List.take_add_one, List.getElem?_eq_getElem h, List.map_append, List.sum_append]
  simp
theorem sumN_in (ws s : List Int) (hw : ∀ x ∈ ws, -100000 ≤ x ∧ x ≤ 100000) : ∀ k : Nat, k ≤ s.length → -((k : Int) * 100000) ≤ sumN ws (s.take k) ∧ sumN ws (s.take k) ≤ (k : Int) * 100000
  | 0, _ => by simp [sumN]
  | k + 1, h => by
    have ih := sumN_in ws s hw k (by omega)
    have h3 : -100000 ≤ ws.getD s[k].toNat 0 ∧ ws.getD s[k].toNat 0 ≤ 100000 := by
      rw [List.getD_eq_getElem?_getD]
      by_cases hp : s[k].toNat < ws.length
      · rw [List.getElem?_eq_getElem hp]; exact hw _ (List.getElem_mem hp)
      · rw [List.getElem?_eq_none (by omega)]; simp
    rw [sumN_take ws s k (by omega)]
    omega
set_option maxRecDepth 100000 in
set_option maxHeartbeats 1000000 in
theorem sum_any (A : Option Addr) (c : Nat) (s : List Int) (B : Option Addr) (d gw : Nat) (ws : List Int) (w : World) (h : SlR w w.heap.size A s) (hW : SlR w w.heap.size B ws) (hl : s.length ≤ 64) (hlw : ws.length ≤ 64)
    (xw : Blk w gw 25 #[.slice B ws.length d]) (hs : ∀ x ∈ s, 0 ≤ x ∧ x < ws.length) (hw : ∀ x ∈ ws, -100000 ≤ x ∧ x ≤ 100000) :
    Calls Tryz.prog 72 #[.slice A s.length c, .pointer (some ⟨gw, 0, none⟩)] w fun e w' => e = .returned (.int .i64 (sumN ws s)) ∧ w = w' := by
  have HIN := hid (sumN_in ws s hw)
  have HT := hid (sumN_take ws s)
  have y0 := xw.cell 0; have z0 := xw.lt
  simp at y0
  clear xw
  go_enter Tryz.func72, Tryz.ntmps72
  go_wp2_with fail
  go_loopw [4, 9] (fun x i wr => ∃ k : Nat, k ≤ s.length ∧ i = .int .i64 k ∧ w = wr ∧ x = .int .i64 (sumN ws (s.take k))) (fun _ i _ => s.length - (intOf i).toNat)
  case atStart => exact ⟨0, by omega, rfl, rfl, rfl⟩
  case round =>
    obtain ⟨k, hk, rfl, rfl, rfl⟩ := hrel
    by_cases hlt : k < s.length
    · have hlt' : (k : Int) < s.length := by omega
      obtain ⟨b, off, rfl, hb, g0, _⟩ := h.int hlt
      have hx := hs _ (List.getElem_mem hlt)
      have ht := hid (HT.out k hlt)
      have hi := HIN.out k (by omega)
      generalize s[k] = x at *
      obtain ⟨p, rfl⟩ : ∃ p : Nat, x = p := ⟨x.toNat, by omega⟩
      have hp : p < ws.length := by omega
      have hp' : (p : Int) < ws.length := by omega
      obtain ⟨b2, off2, rfl, hb2, g2, _⟩ := hW.int hp
      have hy := hw _ (List.getElem_mem hp)
      have ht2 := hid (show sumN ws (s.take (k + 1)) = sumN ws (s.take k) + ws[p] by rw [ht.out]; simp [hp])
      clear ht
      generalize ws[p] = y at *
      generalize sumN ws (s.take k) = a at *
      have ha : -6400000 ≤ a ∧ a ≤ 6400000 := by omega
      go_wp2_with fail
      go_roundw
      case rel => exact ⟨k + 1, by omega, by go_num, by first | trivial | rfl, by rw [ht2.out]⟩
      case measure => simp [intOf]; omega
    · obtain rfl : k = s.length := by omega
      have hfin := hid (show sumN ws (s.take s.length) = sumN ws s by rw [List.take_length])
      generalize sumN ws (s.take s.length) = a at *
      go_wp2_with fail
      go_ret
      exact ⟨by rw [← hfin.out]; rfl, rfl⟩
end Go.Proofs.YteljfpcmpdpehaaGreatDoor
namespace Go.Proofs.YteljfpcmpdpehaaGreatDoor
open Go.RowKit Go.IntWalk Go.Shelf

def meetsN (a b : List Int) : Bool := a.any (fun x => b.any (fun y => decide (x = y)))
set_option maxRecDepth 100000 in
set_option maxHeartbeats 1000000 in
theorem meets_any (A B : Option Addr) (c d : Nat) (a b : List Int) (w : World) (hl : a.length ≤ maxLen) (hm : b.length ≤ maxLen) (h1 : SlR w w.heap.size A a) (h2 : SlR w w.heap.size B b) :
    Calls Tryz.prog 57 #[.slice A a.length c, .slice B b.length d] w fun e w' => e = .returned (.bool (meetsN a b)) ∧ Below w.heap.size w w' := by
  unfold maxLen at hl hm
  go_enter Tryz.func57, Tryz.ntmps57
  go_wp2_with fail
  go_loopw [5] (fun i wr => ∃ k : Nat, k ≤ a.length ∧ i = .int .i64 k ∧ Below w.heap.size w wr ∧ meetsN (a.take k) b = false) (fun i _ => a.length - (intOf i).toNat)
  case atStart => exact ⟨0, by omega, rfl, Below.refl _ _, by simp [meetsN]⟩
  case round =>
    obtain ⟨k, hk, rfl, hB, ht⟩ := hrel
    have HB := hid hB
    have HT := hid ht
    clear hB ht
    by_cases hlt : k < a.length
    · have hlt' : (k : Int) < a.length := by omega
      obtain ⟨b1, o1, rfl, hb1, g0, _⟩ := h1.int hlt
      have hyes := hid (fun (j : Nat) (hj : j < b.length) (he : a[k] = b[j]) => show meetsN a b = true from List.any_eq_true.2 ⟨a[k], List.getElem_mem hlt, List.any_eq_true.2 ⟨b[j], List.getElem_mem hj, decide_eq_true he⟩⟩)
      have hno := hid (fun (hn : b.any (fun y => decide (a[k] = y)) = false) => show meetsN (a.take (k + 1)) b = false by
        unfold meetsN
        rw [List.take_add_one, List.getElem?_eq_getElem hlt, List.any_append]
        have := HT.out
        unfold meetsN at this
        rw [this]
        simpa using hn)
      generalize a[k] = x at *
      go_upto_region 5 with fail
      go_loopw [6] (fun i wr => ∃ j : Nat, j ≤ b.length ∧ i = .int .i64 j ∧ Below w.heap.size w wr ∧ (b.take j).any (fun y => decide (x = y)) = false) (fun i _ => b.length - (intOf i).toNat)
      case atStart => exact ⟨0, by omega, rfl, HB.out, by simp⟩
      case round =>
        clear HB
        obtain ⟨j, hj, rfl, hB, ht⟩ := hrel
        have HB := hid hB
        have HT2 := hid ht
        by_cases hlj : j < b.length
        · have hlj' : (j : Int) < b.length := by omega
          obtain ⟨b2, o2, rfl, hb2, g2, _⟩ := h2.int hlj
          replace g0 := (bcell hB b1 _ hb1).trans g0
          replace g2 := (bcell hB b2 _ hb2).trans g2
          have z1 : b1 < wr.heap.size := by have := hB.size; omega
          have z2 : b2 < wr.heap.size := by have := hB.size; omega
          have hy := hid (hyes.out j hlj)
          have hn := hid (fun (he : x ≠ b[j]) => show (b.take (j + 1)).any (fun y => decide (x = y)) = false by
            rw [List.take_add_one, List.getElem?_eq_getElem hlj, List.any_append, HT2.out]
            simpa using he)
          clear hB ht
          generalize b[j] = y at *
          by_cases he : x = y
          · have hr := hid (hy.out he)
            subst he
            clear hy hn
            as_aux_lemma =>
              go_wp2_with fail
              go_quiet (fail)
              go_wp2_with fail
              go_ret
              exact ⟨ret_bool hr.out.symm, below_drewN HB.out _⟩
          · have hr := hid (hn.out he)
            clear hy hn
            as_aux_lemma =>
              go_wp2_with fail
              go_quiet (fail)
              go_wp2_with fail
              go_roundw
              case rel => exact ⟨j + 1, by omega, by go_num, below_drewN HB.out _, hr.out⟩
              case measure => simp [intOf]; omega
        · obtain rfl : j = b.length := by omega
          rw [List.take_length] at ht
          have hr := hid (hno.out ht)
          clear hB ht
          go_wp2_with fail
          go_roundw
          case rel => exact ⟨k + 1, by omega, by go_num, HB.out, hr.out⟩
          case measure => simp [intOf]; omega
    · obtain rfl : k = a.length := by omega
      have hr := hid (show meetsN a b = false by have := HT.out; rwa [List.take_length] at this)
      go_wp2_with fail
      go_ret
      exact ⟨ret_bool hr.out.symm, HB.out⟩
end Go.Proofs.YteljfpcmpdpehaaGreatDoor
namespace Go.Proofs.YteljfpcmpdpehaaGreatDoor
open Go.RowKit Go.IntWalk Go.Shelf

def shF (t : Tr) : Bool := decide (t.1.length ≤ 20) && decide (t.2.length ≤ 20)
def fewN (n : Int) (T : List Tr) (p q : Int) : Bool := decide (n ≤ p) && decide ((T.length : Int) ≤ q) && T.all shF
set_option maxRecDepth 100000 in
set_option maxHeartbeats 1000000 in
theorem few_any (n : Int) (A : Option Addr) (c : Nat) (T : List Tr) (p q : Int) (w : World) (hl : T.length ≤ maxLen) (h : SlR w w.heap.size A T) :
    Calls Tryz.prog 5 #[.agg #[.int .i64 n, .slice A T.length c], .int .i64 p, .int .i64 q] w fun e w' => e = .returned (.bool (fewN n T p q)) ∧ Below w.heap.size w w' := by
  unfold maxLen at hl
  obtain ⟨w1, hw1⟩ : ∃ w1, w1 = (w.alloc (Obj.cells #[.int .i64 n, .slice A T.length c] 24)) := ⟨_, rfl⟩
  have B1 : Below w.heap.size w w1 := by rw [hw1]; (repeat (first | exact Below.refl _ _ | assumption | refine below_drewN ?_ _ | refine Below.drew ?_ | refine Below.alloc ?_ (by (try simp); (try omega)) _ | refine Below.setCell ?_ (by (try simp); (try omega)) _))
  have x1 : Blk w1 w.heap.size 24 #[.int .i64 n, .slice A T.length c] := by rw [hw1]; exact Blk.new w _ _
  have y0 := x1.cell 0; have y1 := x1.cell 1; have z1 := x1.lt
  simp at y0 y1
  have HB1 := hid B1
  have h1 := (h.below B1).more B1.size
  have hno := hid (fun (k : Nat) (hk : k < T.length) (hf : shF T[k] = false) => show fewN n T p q = false by
    unfold fewN
    have : T.all shF = false := by
      rw [List.all_eq_false]
      exact ⟨_, List.getElem_mem hk, by simp [hf]⟩
    rw [this, Bool.and_false])
  clear x1 B1 h
  go_enter Tryz.func5, Tryz.ntmps5
  go_upto_region 1 with fail
  rw [← hw1]
  clear hw1
  go_upto_region 2 with fail
  go_loopw [7] (fun i wr => ∃ k : Nat, k ≤ T.length ∧ i = .int .i64 k ∧ w1 = wr ∧ (T.take k).all shF = true) (fun i _ => T.length - (intOf i).toNat)
  case atStart => exact ⟨0, by omega, rfl, rfl, by simp⟩
  case round =>
    obtain ⟨k, hk, rfl, rfl, ht⟩ := hrel
    have HT := hid ht
    clear ht
    by_cases hlt : k < T.length
    · have hlt' : (k : Int) < T.length := by omega
      by_cases hq : (k : Int) ≤ q
      · obtain ⟨b, off, A1, c1, A2, c2, rfl, hb, g0, g1, _, _, _, _⟩ := h1.tr hlt
        have hf := hid (hno.out k hlt)
        have hst := hid (show (T.take (k + 1)).all shF = shF T[k] by rw [List.take_add_one, List.getElem?_eq_getElem hlt, List.all_append, HT.out]; simp)
        generalize T[k] = t at *
        obtain ⟨I, O⟩ := t
        simp only at g0 g1
        by_cases hI : 20 < I.length
        · go_wp2_with fail
          go_ret
          exact ⟨ret_bool (by rw [hf.out (by simp [shF]; omega)]), HB1.out⟩
        · by_cases hO : 20 < O.length
          · go_wp2_with fail
            go_ret
            exact ⟨ret_bool (by rw [hf.out (by simp [shF]; omega)]), HB1.out⟩
          · go_wp2_with fail
            go_roundw
            case rel => exact ⟨k + 1, by omega, by go_num, by first | trivial | rfl, by rw [hst.out]; simp [shF]; omega⟩
            case measure => simp [intOf]; omega
      · have hr := hid (show fewN n T p q = false by unfold fewN; have : ¬ ((T.length : Int) ≤ q) := by omega
                                                     simp [this])
        by_cases hp : n ≤ p
        · have hTq : ¬ ((T.length : Int) ≤ q) := by omega
          go_wp2_with fail
          go_ret
          exact ⟨ret_bool hr.out.symm, HB1.out⟩
        · go_wp2_with fail
          go_ret
          exact ⟨ret_bool hr.out.symm, HB1.out⟩
    · obtain rfl : k = T.length := by omega
      rw [List.take_length] at HT
      have hr := hid (show fewN n T p q = (decide (n ≤ p) && decide ((T.length : Int) ≤ q)) by unfold fewN; rw [HT.out, Bool.and_true])
      by_cases hp : n ≤ p
      · go_wp2_with fail
        go_ret
        exact ⟨ret_bool (by rw [hr.out]; simp [hp]), HB1.out⟩
      · go_wp2_with fail
        go_ret
        exact ⟨ret_bool (by rw [hr.out]; simp [hp]; try omega), HB1.out⟩
end Go.Proofs.YteljfpcmpdpehaaGreatDoor
