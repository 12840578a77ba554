
/- Lease: lists of a desk's calls; 'fine'; what is read is the encoding. -/
import Derived.Test.YtappgjdnfllblaaDoorLeaSa
import Derived.Test.YtappgjdnfllblaaDoorLrC
set_option linter.unusedSimpArgs false
set_option linter.unusedVariables false
namespace Go.Proofs.YtappgjdnfllblaaDoor
open Go.RowKit Go.IntWalk Go.Maps Go.WideMaps
/-- A call: Do, Zone, Until, Now, N. -/
abbrev Opl := Int × Int × Int × Int × P4
theorem opl_rep {w : World} {B : Nat} {es : List Value} {o : Opl} (h : Rep.rep w B es o) : es = [.int .i64 o.1, .int .i64 o.2.1, .int .i64 o.2.2.1, .int .i64 o.2.2.2.1, .int .i64 o.2.2.2.2.1, .int .i64 o.2.2.2.2.2.1, .int .i64 o.2.2.2.2.2.2.1, .int .i64 o.2.2.2.2.2.2.2] ∧
    I64 o.1 ∧ I64 o.2.1 ∧ I64 o.2.2.1 ∧ I64 o.2.2.2.1 ∧ P4I o.2.2.2.2 := by
  obtain ⟨e1, e2, rfl, _, _, ⟨rfl, h1⟩, e3, e4, rfl, _, _, ⟨rfl, h2⟩, e5, e6, rfl, _, _, ⟨rfl, h3⟩, e7, e8, rfl, _, _, ⟨rfl, h4⟩, f1, f2, rfl, _, _, ⟨rfl, h5⟩, f3, f4, rfl, _, _, ⟨rfl, h6⟩, f5, f6, rfl, _, _, ⟨rfl, h7⟩, rfl, h8⟩ := h
  exact ⟨rfl, h1, h2, h3, h4, h5, h6, h7, h8⟩
theorem SlR.opl {w : World} {B : Nat} {A : Option Addr} {l : List Opl} (h : SlR w B A l) {k : Nat} (hk : k < l.length) : ∃ b off, A = some ⟨b, off, none⟩ ∧ b < B ∧
    w.cell? ⟨b, off + k * 8, none⟩ = some (.int .i64 l[k].1) ∧ w.cell? ⟨b, off + k * 8 + 1, none⟩ = some (.int .i64 l[k].2.1) ∧ w.cell? ⟨b, off + k * 8 + 2, none⟩ = some (.int .i64 l[k].2.2.1) ∧ w.cell? ⟨b, off + k * 8 + 3, none⟩ = some (.int .i64 l[k].2.2.2.1) ∧
    w.cell? ⟨b, off + k * 8 + 4, none⟩ = some (.int .i64 l[k].2.2.2.2.1) ∧ w.cell? ⟨b, off + k * 8 + 5, none⟩ = some (.int .i64 l[k].2.2.2.2.2.1) ∧ w.cell? ⟨b, off + k * 8 + 6, none⟩ = some (.int .i64 l[k].2.2.2.2.2.2.1) ∧ w.cell? ⟨b, off + k * 8 + 7, none⟩ = some (.int .i64 l[k].2.2.2.2.2.2.2) ∧
    I64 l[k].2.1 ∧ I64 l[k].2.2.1 ∧ P4I l[k].2.2.2.2 := by
  obtain ⟨b, off, es, hA, hb, hs, hc, hr⟩ := h k _ (List.getElem?_eq_getElem hk)
  obtain ⟨rfl, h1, h2, h3, h4, h5⟩ := opl_rep hr
  have h8 : Rep.size Opl = 8 := rfl
  rw [h8] at hc
  exact ⟨b, off, hA, hb, hc 0 _ rfl, hc 1 _ rfl, hc 2 _ rfl, hc 3 _ rfl, hc 4 _ rfl, hc 5 _ rfl, hc 6 _ rfl, hc 7 _ rfl, h2, h3, h5⟩
def okO (o : Opl) : Bool := decide ((0 ≤ o.2.2.2.1 ∧ o.2.2.2.1 ≤ 1099511627776) ∧ (-1099511627776 ≤ o.2.2.2.2.2.2.1 ∧ o.2.2.2.2.2.2.1 ≤ 1099511627776) ∧ (-1099511627776 ≤ o.2.2.2.2.2.2.2 ∧ o.2.2.2.2.2.2.2 ≤ 1099511627776))
def fineL (l : List Opl) (n : Int) : Bool := l.all okO && decide ((l.length : Int) ≤ n)
theorem fineL_iff {l : List Opl} {n : Int} : fineL l n = true ↔ (∀ o ∈ l, okO o = true) ∧ (l.length : Int) ≤ n := by
  simp [fineL, List.all_eq_true]
set_option maxRecDepth 100000 in
set_option maxHeartbeats 4000000 in
theorem fine_any (A : Option Addr) (c : Nat) (l : List Opl) (n : Int) (w : World) (hl : l.length ≤ maxLen) (hs : SlR w w.heap.size A l) :
    Calls Tryd.prog 9 #[.slice A l.length c, .int .i64 n] w fun e w' => e = .returned (.bool (fineL l n)) ∧ Below w.heap.size w w' := by
  unfold maxLen at hl
  have HS := hid hs
  clear hs
  go_enter Tryd.func9, Tryd.ntmps9
  go_wp2_with fail
  go_loopw [5] (fun i wr => ∃ k : Nat, k ≤ l.length ∧ i = .int .i64 (k : Nat) ∧ Hid ((l.take k).all okO = true) ∧ Below w.heap.size w wr) (fun i _ => l.length - (intOf i).toNat)
  case atStart => exact ⟨0, by omega, rfl, by simp [Hid], Below.refl _ _⟩
  case round =>
    obtain ⟨k, hk, rfl, hall, hB⟩ := hrel
    have BB := hid hB
    by_cases hlt : k < l.length
    · obtain ⟨b, off, rfl, hb, g0, g1, g2, g3, g4, g5, g6, g7, _, _, _⟩ := HS.out.opl hlt
      have hst := hid (show okO l[k] = true → (l.take (k + 1)).all okO = true from fun h => by
        rw [List.take_add_one, List.getElem?_eq_getElem hlt, List.all_append, hall.out]; simp [h])
      have hno := hid (show okO l[k] = false → fineL l n = false from fun h => by
        unfold fineL
        rw [show l.all okO = false by rw [List.all_eq_false]; exact ⟨l[k], List.getElem_mem hlt, by simp [h]⟩]
        rfl)
      have hlt' : (k : Int) < l.length := by omega
      have hk1 : wrap64 ((k : Int) + 1) = ((k + 1 : Nat) : Int) := by rw [wrap64_in _ (by omega)]; simp
      generalize l[k] = o at *
      obtain ⟨o0, o1, o2, o3, o4, o5, o6, o7⟩ := o
      simp only at g0 g1 g2 g3 g4 g5 g6 g7
      replace g0 := (bcell hB b _ hb).trans g0
      replace g1 := (bcell hB b _ hb).trans g1
      replace g2 := (bcell hB b _ hb).trans g2
      replace g3 := (bcell hB b _ hb).trans g3
      replace g4 := (bcell hB b _ hb).trans g4
      replace g5 := (bcell hB b _ hb).trans g5
      replace g6 := (bcell hB b _ hb).trans g6
      replace g7 := (bcell hB b _ hb).trans g7
      clear hB
      go_upto_region 5 with fail
      have B5 := hid (BB.out.alloc BB.out.size (Obj.cells #[.int .i64 o0, .int .i64 o1, .int .i64 o2, .int .i64 o3, .int .i64 o4, .int .i64 o5, .int .i64 o6, .int .i64 o7] 41))
      have X5 := Blk.new wr 41 #[.int .i64 o0, .int .i64 o1, .int .i64 o2, .int .i64 o3, .int .i64 o4, .int .i64 o5, .int .i64 o6, .int .i64 o7]
      generalize (wr.alloc (Obj.cells #[.int .i64 o0, .int .i64 o1, .int .i64 o2, .int .i64 o3, .int .i64 o4, .int .i64 o5, .int .i64 o6, .int .i64 o7] 41)) = w5 at *
      generalize wr.heap.size = q at *
      have y3 := X5.cell 3; have y6 := X5.cell 6; have y7 := X5.cell 7
      simp at y3 y6 y7
      clear g0 g1 g2 g3 g4 g5 g6 g7 X5 BB
      have hokd := hid (show okO (o0, o1, o2, o3, o4, o5, o6, o7) = decide ((0 ≤ o3 ∧ o3 ≤ 1099511627776) ∧ (-1099511627776 ≤ o6 ∧ o6 ≤ 1099511627776) ∧ (-1099511627776 ≤ o7 ∧ o7 ≤ 1099511627776)) from rfl)
      by_cases t0 : o3 < 0
      · have hr := hid (hno.out (by rw [hokd.out, decide_eq_false_iff_not]; omega))
        clear hst hno hokd
        go_wp2_with fail
        go_ret
        exact ⟨ret_bool hr.out.symm, B5.out⟩
      ·
        by_cases t1 : 1099511627776 < o3
        · have hr := hid (hno.out (by rw [hokd.out, decide_eq_false_iff_not]; omega))
          clear hst hno hokd
          go_wp2_with fail
          go_ret
          exact ⟨ret_bool hr.out.symm, B5.out⟩
        ·
          by_cases t2 : 1099511627776 < o6
          · have hr := hid (hno.out (by rw [hokd.out, decide_eq_false_iff_not]; omega))
            clear hst hno hokd
            go_wp2_with fail
            go_ret
            exact ⟨ret_bool hr.out.symm, B5.out⟩
          ·
            by_cases t3 : o6 < -1099511627776
            · have hr := hid (hno.out (by rw [hokd.out, decide_eq_false_iff_not]; omega))
              clear hst hno hokd
              go_wp2_with fail
              go_ret
              exact ⟨ret_bool hr.out.symm, B5.out⟩
            ·
              by_cases t4 : 1099511627776 < o7
              · have hr := hid (hno.out (by rw [hokd.out, decide_eq_false_iff_not]; omega))
                clear hst hno hokd
                go_wp2_with fail
                go_ret
                exact ⟨ret_bool hr.out.symm, B5.out⟩
              ·
                by_cases t5 : o7 < -1099511627776
                · have hr := hid (hno.out (by rw [hokd.out, decide_eq_false_iff_not]; omega))
                  clear hst hno hokd
                  go_wp2_with fail
                  go_ret
                  exact ⟨ret_bool hr.out.symm, B5.out⟩
                ·
                  have hr := hid (hst.out (by rw [hokd.out, decide_eq_true_eq]; omega))
                  clear hst hno hokd
                  go_wp2_with fail
                  go_roundw
                  case rel => exact ⟨k + 1, by omega, by first | exact congrArg (Value.int .i64) hk1 | (simp [hk1]; done), hr, B5.out⟩
                  case measure => simp [intOf, hk1]; omega
    · obtain rfl : k = l.length := by omega
      rw [List.take_length] at hall
      have hr := hid (show fineL l n = decide ((l.length : Int) ≤ n) by unfold fineL; rw [hall.out]; rfl)
      go_wp2_with fail
      go_ret
      exact ⟨ret_bool hr.out.symm, BB.out⟩
theorem r4_split {s : RS} (h : (r4 s).2.2 = false) : s.2 = false ∧ s.1 = enc4 (r4 s).1 ++ (r4 s).2.1 := by
  unfold r4 at h ⊢
  simp only at h ⊢
  obtain ⟨a4, b4⟩ := rI_split h
  obtain ⟨a3, b3⟩ := rI_split a4
  obtain ⟨a2, b2⟩ := rI_split a3
  obtain ⟨a1, b1⟩ := rI_split a2
  refine ⟨a1, ?_⟩
  unfold enc4
  rw [b1, b2, b3, b4]
  simp only [List.append_assoc]
theorem readN_split {s : List UInt8} {p : P4} (h : readN s = some p) : enc4 p = s ∧ P4I p := by
  unfold readN at h
  split at h
  · rename_i hc
    injection h with h
    subst h
    have := r4_split (s := (s, false)) (by rw [hc])
    rw [hc] at this
    obtain ⟨-, e⟩ := this
    exact ⟨by simpa using e.symm, r4_bd _⟩
  · cases h
theorem rNs_split {s : RS} (hok : RSok s) (hl : s.1.length ≤ 1000000000000) (h : (rNs s).2.2 = false) : s.2 = false ∧ s.1 = encL ((rNs s).1.map encI) ++ (rNs s).2.1 := by
  unfold rNs at h ⊢
  split at h
  · rename_i xs l hn
    refine ⟨h, ?_⟩
    simp only
    exact listL_split (enc := encI) (fun l x r h => by have := numL_split h; rw [this]; simp [encI]) hn
  · cases h
/-- A zone's part is not changed by another zone's numbers. -/
theorem encZ_setH {d : LDk} {k j : Nat} (hne : j ≠ k) (x : Ho) : encZ (d.setH k x) j = encZ d j := by
  have e1 : (d.setH k x).hp j = d.hp j := rfl
  have e2 : (d.setH k x).hs j = d.hs j := by show (if (j : Int) = (k : Int) then x else d.hs j) = _; rw [if_neg (by omega)]
  have e3 : (d.setH k x).gs j = d.gs j := rfl
  unfold encZ numsL
  rw [e1, e2, e3]
theorem encZ_setG {d : LDk} {k j : Nat} (hne : j ≠ k) (x : Gu) : encZ (d.setG k x) j = encZ d j := by
  have e1 : (d.setG k x).hp j = d.hp j := rfl
  have e2 : (d.setG k x).hs j = d.hs j := rfl
  have e3 : (d.setG k x).gs j = d.gs j := by show (if (j : Int) = (k : Int) then x else d.gs j) = _; rw [if_neg (by omega)]
  unfold encZ numsL
  rw [e1, e2, e3]
theorem stepR_split {d e : LDk} {k : Nat} {s t : RS} (hk : k < d.home.length) (h : stepR d k s = some (e, t)) (ht : t.2 = false) : s.2 = false ∧ s.1 = encZ e k ++ t.1 ∧ ∀ j, j ≠ k → encZ e j = encZ d j := by
  unfold stepR at h
  split at h
  · rename_i hm
    split at h
    · rename_i hc
      injection h with h
      injection h with h1 h2
      subst h1 h2
      obtain ⟨a, b⟩ := r3_split ht
      refine ⟨a, ?_, fun j hj => encZ_setH hj _⟩
      rw [b]
      congr 1
      have hp : d.hp k = true := by rw [hp_lt hk, decide_eq_true hm]
      unfold encZ
      rw [numsH _ _ hp]
      rcases hc.1 with h0 | h0 <;> simp [enc3, h0]
    · cases h
  · rename_i hm
    split at h
    · injection h with h
      injection h with h1 h2
      subst h1 h2
      obtain ⟨a, b⟩ := r4_split ht
      refine ⟨a, ?_, fun j hj => encZ_setG hj _⟩
      rw [b]
      congr 1
      have hp : d.hp k = false := by rw [hp_lt hk, decide_eq_false hm]
      unfold encZ
      rw [numsG _ _ hp]
      simp [enc4]
    · cases h
theorem runR_split {d0 : LDk} {s : RS} : ∀ (k : Nat) (d : LDk) (t : RS), k ≤ d0.home.length → runR d0 s k = some (d, t) → t.2 = false → s.2 = false ∧ s.1 = ((List.range k).map (encZ d)).flatten ++ t.1 ∧ d.me = d0.me ∧ d.home = d0.home := by
  intro k
  induction k with
  | zero =>
    intro d t _ h ht
    injection h with h
    injection h with h1 h2
    subst h1 h2
    exact ⟨ht, by simp, rfl, rfl⟩
  | succ k ih =>
    intro d t hk h ht
    unfold runR at h
    cases hr : runR d0 s k with
    | none => rw [hr] at h; cases h
    | some x =>
      obtain ⟨e, u⟩ := x
      rw [hr] at h
      simp only at h
      obtain ⟨m1, m2⟩ := stepR_me h
      -- the state ahead is not broken
      have he0 : e.home = d0.home := by
        have := runQ_spec d0 s k
        rw [hr] at this
        exact this.2.2
      have hem : e.me = d0.me := by
        have := runQ_spec d0 s k
        rw [hr] at this
        exact this.2.1
      obtain ⟨a, b, c⟩ := stepR_split (by rw [he0]; omega) h ht
      obtain ⟨a2, b2, -, -⟩ := ih e u (by omega) hr a
      refine ⟨a2, ?_, by rw [m1, hem], by rw [m2, he0]⟩
      rw [b2, b, List.range_succ, List.map_append, List.flatten_append]
      have hmp : (List.range k).map (encZ e) = (List.range k).map (encZ d) := by
        apply List.map_congr_left
        intro j hj
        exact (c j (by have := List.mem_range.1 hj; omega)).symm
      rw [hmp]
      simp
/-- What is read is the encoding. -/
theorem readDk_split {s : List UInt8} {d : LDk} (hs : s.length ≤ 1000000000000) (h : readDk s = some d) : encDk d = s := by
  unfold readDk at h
  obtain ⟨me, s1, e1⟩ : ∃ x s', rI (s, false) = (x, s') := ⟨_, _, rfl⟩
  obtain ⟨home, s2, e2⟩ : ∃ x s', rNs s1 = (x, s') := ⟨_, _, rfl⟩
  rw [e1] at h
  simp only [e2] at h
  cases hn : newDk me home with
  | none => rw [hn] at h; cases h
  | some d0 =>
    rw [hn] at h
    simp only at h
    obtain ⟨e0, ok0⟩ := newDk_some hn
    cases hr : runR d0 s2 d0.home.length with
    | none => rw [hr] at h; cases h
    | some x =>
      obtain ⟨d', t⟩ := x
      rw [hr] at h
      simp only at h
      split at h
      · rename_i ht
        injection h with h
        subst h
        obtain ⟨a, b, hm, hh⟩ := runR_split _ _ _ (Nat.le_refl _) hr (by rw [ht])
        have k1 := rI_ok (s := (s, false)) (by intro h; cases h)
        have l1 := rI_le (s, false)
        have q1 := rI_split (s := (s, false))
        rw [e1] at k1 l1 q1
        simp only at k1 l1 q1
        have q2 := rNs_split k1 (by omega)
        rw [e2] at q2
        simp only at q2
        obtain ⟨a2, b2⟩ := q2 a
        obtain ⟨-, b1⟩ := q1 a2
        have hm' : d'.me = me := by rw [hm, e0]; rfl
        have hh' : d'.home = home := by rw [hh, e0]; rfl
        have hl0 : d0.home = home := by rw [e0]; rfl
        unfold encDk encDh
        rw [b1, b2, b, ht, hm', hh', hl0]
        simp
      · cases h
end Go.Proofs.YtappgjdnfllblaaDoor
