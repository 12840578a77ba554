
/- Stock: IndexFunc and ContainsFunc over wants and takes; takes in rows of the call's own. -/
import Derived.Test.YtfpehakllnkaeaaGreatDoorStkK
set_option linter.unusedSimpArgs false
set_option linter.unusedVariables false
namespace Go.Proofs.YtfpehakllnkaeaaGreatDoor
open Go.RowKit Go.IntWalk

set_option maxRecDepth 100000 in
set_option maxHeartbeats 1000000 in
theorem ixw_any (gf : Nat) (lb : Array Value) (eg : ∀ args w, (callFunc gf args).run Tryz.prog w = .ok (.enter gf args) w) (A : Option Addr) (c : Nat) (l : List Wt) (f : Wt → Bool) (w : World) (hl : l.length ≤ maxLen) (h : SlR w w.heap.size A l)
    (hp : ∀ (x : Wt) (W : World), x ∈ l → Below w.heap.size w W → Calls Tryz.prog gf (#[.agg #[.int .i64 x.1, .int .i64 x.2.1, .int .i64 x.2.2]] ++ lb) W fun e w' => e = .returned (.bool (f x)) ∧ Below w.heap.size w w') :
    Calls Tryz.prog 85 #[.slice A l.length c, .func (.func gf) #[] lb] w fun e w' => ∃ r : Int, e = .returned (.int .i64 r) ∧ (0 ≤ r ↔ l.any f = true) ∧ Below w.heap.size w w' := by
  unfold maxLen at hl
  have HP := hid hp
  clear hp
  go_enter Tryz.func85, Tryz.ntmps85
  go_wp2_with fail
  go_loopw [8] (fun i wr => ∃ k : Nat, k ≤ l.length ∧ i = .int .i64 k ∧ Below w.heap.size w wr ∧ (l.take k).any f = false) (fun i _ => l.length - (intOf i).toNat)
  case atStart => exact ⟨0, by omega, rfl, Below.refl _ _, by simp⟩
  case round =>
    obtain ⟨k, hk, rfl, hB, ht⟩ := hrel
    have HB := hid hB
    have HT := hid ht
    by_cases hlt : k < l.length
    · have hlt' : (k : Int) < l.length := by omega
      obtain ⟨b, off, rfl, hb, g0, g1, g2, -⟩ := h.i3 hlt
      replace g0 := (bcell hB b _ hb).trans g0
      replace g1 := (bcell hB b _ hb).trans g1
      replace g2 := (bcell hB b _ hb).trans g2
      have hz : b < wr.heap.size := by have := hB.size; omega
      have HC := hid (HP.out l[k] wr (List.getElem_mem hlt) hB)
      have hyes := hid (fun (hq : f l[k] = true) => show l.any f = true from List.any_eq_true.2 ⟨l[k], List.getElem_mem hlt, hq⟩)
      have hno := hid (fun (hq : f l[k] = false) => show (l.take (k + 1)).any f = false from by rw [List.take_add_one, List.getElem?_eq_getElem hlt, List.any_append, ht]; simp [hq])
      clear hB ht
      generalize l[k] = x at *
      obtain ⟨xa, xb, xc⟩ := x
      simp only at g0 g1 g2 HC
      cases hq : f (xa, xb, xc) with
      | true =>
        have HQ := hid hq
        rw [hq] at HC
        clear hq
        as_aux_lemma =>
          go_wp2_with fail
          refine HC.out.mono ?_
          rintro e w9 ⟨rfl, hB9⟩
          have HB9 := hid hB9
          clear hB9
          go_wp2_with fail
          go_ret
          exact ⟨k, rfl, ⟨fun _ => hyes.out HQ.out, fun _ => by omega⟩, HB9.out⟩
      | false =>
        have HQ := hid hq
        rw [hq] at HC
        clear hq
        as_aux_lemma =>
          go_wp2_with fail
          refine HC.out.mono ?_
          rintro e w9 ⟨rfl, hB9⟩
          have HB9 := hid hB9
          clear hB9
          go_wp2_with fail
          go_roundw
          case rel => exact ⟨k + 1, by omega, by go_num, HB9.out, hno.out HQ.out⟩
          case measure => simp [intOf]; omega
    · obtain rfl : k = l.length := by omega
      have hall := hid (show l.any f = false by rw [← ht, List.take_length])
      clear hB ht
      go_wp2_with fail
      go_ret
      exact ⟨-1, rfl, by rw [hall.out]; simp, HB.out⟩
set_option maxRecDepth 100000 in
theorem ctw_any (gf : Nat) (lb : Array Value) (eg : ∀ args w, (callFunc gf args).run Tryz.prog w = .ok (.enter gf args) w) (A : Option Addr) (c : Nat) (l : List Wt) (f : Wt → Bool) (w : World) (hl : l.length ≤ maxLen) (h : SlR w w.heap.size A l)
    (hp : ∀ (x : Wt) (W : World), x ∈ l → Below w.heap.size w W → Calls Tryz.prog gf (#[.agg #[.int .i64 x.1, .int .i64 x.2.1, .int .i64 x.2.2]] ++ lb) W fun e w' => e = .returned (.bool (f x)) ∧ Below w.heap.size w w') :
    Calls Tryz.prog 57 #[.slice A l.length c, .func (.func gf) #[] lb] w fun e w' => e = .returned (.bool (l.any f)) ∧ Below w.heap.size w w' := by
  have HI := hid (ixw_any gf lb eg A c l f w hl h hp)
  clear hp h
  unfold maxLen at hl
  go_enter Tryz.func57, Tryz.ntmps57
  go_wp2_with fail
  refine HI.out.mono ?_
  rintro e w2 ⟨r, rfl, hr, hB⟩
  have HR := hid hr
  have HB := hid hB
  clear hr hB
  go_wp2_with fail
  go_ret
  refine ⟨ret_bool ?_, HB.out⟩
  have := HR.out
  cases hx : l.any f with
  | true => rw [hx] at this; simpa using this
  | false => rw [hx] at this; simp at this ⊢; omega
set_option maxRecDepth 100000 in
set_option maxHeartbeats 1000000 in
theorem ixt_any (gf : Nat) (lb : Array Value) (eg : ∀ args w, (callFunc gf args).run Tryz.prog w = .ok (.enter gf args) w) (A : Option Addr) (c : Nat) (l : List Tk) (f : Tk → Bool) (w : World) (hl : l.length ≤ maxLen) (h : SlR w w.heap.size A l)
    (hp : ∀ (x : Tk) (W : World), x ∈ l → Below w.heap.size w W → Calls Tryz.prog gf (#[.agg #[.int .i64 x.1, .int .i64 x.2]] ++ lb) W fun e w' => e = .returned (.bool (f x)) ∧ Below w.heap.size w w') :
    Calls Tryz.prog 86 #[.slice A l.length c, .func (.func gf) #[] lb] w fun e w' => ∃ r : Int, e = .returned (.int .i64 r) ∧ (0 ≤ r ↔ l.any f = true) ∧ Below w.heap.size w w' := by
  unfold maxLen at hl
  have HP := hid hp
  clear hp
  go_enter Tryz.func86, Tryz.ntmps86
  go_wp2_with fail
  go_loopw [8] (fun i wr => ∃ k : Nat, k ≤ l.length ∧ i = .int .i64 k ∧ Below w.heap.size w wr ∧ (l.take k).any f = false) (fun i _ => l.length - (intOf i).toNat)
  case atStart => exact ⟨0, by omega, rfl, Below.refl _ _, by simp⟩
  case round =>
    obtain ⟨k, hk, rfl, hB, ht⟩ := hrel
    have HB := hid hB
    have HT := hid ht
    by_cases hlt : k < l.length
    · have hlt' : (k : Int) < l.length := by omega
      obtain ⟨b, off, rfl, hb, g0, g1, -⟩ := h.tk hlt
      replace g0 := (bcell hB b _ hb).trans g0
      replace g1 := (bcell hB b _ hb).trans g1
      have hz : b < wr.heap.size := by have := hB.size; omega
      have HC := hid (HP.out l[k] wr (List.getElem_mem hlt) hB)
      have hyes := hid (fun (hq : f l[k] = true) => show l.any f = true from List.any_eq_true.2 ⟨l[k], List.getElem_mem hlt, hq⟩)
      have hno := hid (fun (hq : f l[k] = false) => show (l.take (k + 1)).any f = false from by rw [List.take_add_one, List.getElem?_eq_getElem hlt, List.any_append, ht]; simp [hq])
      clear hB ht
      generalize l[k] = x at *
      obtain ⟨xa, xb⟩ := x
      simp only at g0 g1 HC
      cases hq : f (xa, xb) with
      | true =>
        have HQ := hid hq
        rw [hq] at HC
        clear hq
        as_aux_lemma =>
          go_wp2_with fail
          refine HC.out.mono ?_
          rintro e w9 ⟨rfl, hB9⟩
          have HB9 := hid hB9
          clear hB9
          go_wp2_with fail
          go_ret
          exact ⟨k, rfl, ⟨fun _ => hyes.out HQ.out, fun _ => by omega⟩, HB9.out⟩
      | false =>
        have HQ := hid hq
        rw [hq] at HC
        clear hq
        as_aux_lemma =>
          go_wp2_with fail
          refine HC.out.mono ?_
          rintro e w9 ⟨rfl, hB9⟩
          have HB9 := hid hB9
          clear hB9
          go_wp2_with fail
          go_roundw
          case rel => exact ⟨k + 1, by omega, by go_num, HB9.out, hno.out HQ.out⟩
          case measure => simp [intOf]; omega
    · obtain rfl : k = l.length := by omega
      have hall := hid (show l.any f = false by rw [← ht, List.take_length])
      clear hB ht
      go_wp2_with fail
      go_ret
      exact ⟨-1, rfl, by rw [hall.out]; simp, HB.out⟩
set_option maxRecDepth 100000 in
theorem ctt_any (gf : Nat) (lb : Array Value) (eg : ∀ args w, (callFunc gf args).run Tryz.prog w = .ok (.enter gf args) w) (A : Option Addr) (c : Nat) (l : List Tk) (f : Tk → Bool) (w : World) (hl : l.length ≤ maxLen) (h : SlR w w.heap.size A l)
    (hp : ∀ (x : Tk) (W : World), x ∈ l → Below w.heap.size w W → Calls Tryz.prog gf (#[.agg #[.int .i64 x.1, .int .i64 x.2]] ++ lb) W fun e w' => e = .returned (.bool (f x)) ∧ Below w.heap.size w w') :
    Calls Tryz.prog 61 #[.slice A l.length c, .func (.func gf) #[] lb] w fun e w' => e = .returned (.bool (l.any f)) ∧ Below w.heap.size w w' := by
  have HI := hid (ixt_any gf lb eg A c l f w hl h hp)
  clear hp h
  unfold maxLen at hl
  go_enter Tryz.func61, Tryz.ntmps61
  go_wp2_with fail
  refine HI.out.mono ?_
  rintro e w2 ⟨r, rfl, hr, hB⟩
  have HR := hid hr
  have HB := hid hB
  clear hr hB
  go_wp2_with fail
  go_ret
  refine ⟨ret_bool ?_, HB.out⟩
  have := HR.out
  cases hx : l.any f with
  | true => rw [hx] at this; simpa using this
  | false => rw [hx] at this; simp at this ⊢; omega

theorem callPl (args : Array Value) (w : World) : (callFunc 58 args).run Tryz.prog w = .ok (.enter 58 args) w := by kernel_rfl
set_option maxRecDepth 100000 in
theorem plan1_any (x : Wt) (w : World) : Calls Tryz.prog 58 #[.agg #[.int .i64 x.1, .int .i64 x.2.1, .int .i64 x.2.2]] w fun e w' => e = .returned (.bool (!wantF x)) ∧ Below w.heap.size w w' := by
  have HC := hid (rightWant_any x)
  have B1 := hid ((Below.refl w.heap.size w).alloc (Nat.le_refl _) (Obj.cells #[.int .i64 x.1, .int .i64 x.2.1, .int .i64 x.2.2] 42))
  generalize wantF x = r at *
  obtain ⟨xa, xb, xc⟩ := x
  simp only at *
  go_enter Tryz.func58, Tryz.ntmps58
  go_wp2_with fail
  refine (HC.out _).mono ?_
  rintro e w2 ⟨rfl, hB⟩
  have B2 := hid (B1.out.trans (hB.mono B1.out.size))
  clear hB
  go_wp2_with fail
  go_ret
  exact ⟨rfl, B2.out⟩
/-! ### Takes -/
def t2 (l : List Tk) : List Value := l.flatMap fun x => [.int .i64 x.1, .int .i64 x.2]
theorem t2_len (l : List Tk) : (t2 l).length = l.length * 2 := by induction l with | nil => rfl | cons a l ih => simp [t2, List.flatMap_cons] at ih ⊢; omega
theorem t2_app (a b : List Tk) : t2 (a ++ b) = t2 a ++ t2 b := by simp [t2]
theorem t2_at : ∀ (l : List Tk) (k : Nat) (hk : k < l.length), (t2 l)[k * 2]? = some (.int .i64 l[k].1) ∧ (t2 l)[k * 2 + 1]? = some (.int .i64 l[k].2)
  | x :: l, 0, _ => by simp [t2]
  | x :: l, k + 1, hk => by
    have := t2_at l k (by simpa using hk)
    have e : t2 (x :: l) = .int .i64 x.1 :: .int .i64 x.2 :: t2 l := rfl
    rw [e, show (k + 1) * 2 = k * 2 + 2 by omega]
    simpa using this
theorem t2_one (l : List Tk) : ∀ v ∈ t2 l, v.oneCell' = true := by
  intro u hu
  obtain ⟨b, _, hb⟩ := List.mem_flatMap.1 hu
  simp at hb
  rcases hb with rfl | rfl <;> rfl
def OwnT (w : World) (base : Nat) (v : Value) (l : List Tk) : Prop := w.ownsRow base 66 2 v l.length (t2 l)
def I2 (x : Int × Int) : Prop := I64 x.1 ∧ I64 x.2
theorem OwnT.slr {w : World} {base : Nat} {v : Value} {l : List Tk} (h : OwnT w base v l) (hi : ∀ x ∈ l, I2 x) : ∃ A c, v = .slice A l.length c ∧ l.length ≤ c ∧ c ≤ maxLen ∧ SlR w w.heap.size A l := by
  by_cases h0 : 0 < l.length
  · obtain ⟨g, cap, cur, hv, _, hb, hc, hm, hcell⟩ := own_cell h h0
    refine ⟨_, cap, hv, hc, hm, fun k x hx => ?_⟩
    obtain ⟨hk, rfl⟩ := List.getElem?_eq_some_iff.1 hx
    obtain ⟨i0, i1⟩ := hi _ (List.getElem_mem hk)
    obtain ⟨r0, r1⟩ := t2_at l k hk
    refine ⟨g, 0, [.int .i64 l[k].1, .int .i64 l[k].2], rfl, hb.lt, rfl, fun j u hu => ?_, [.int .i64 l[k].1], [.int .i64 l[k].2], rfl, rfl, rfl, ⟨rfl, i0⟩, rfl, i1⟩
    have h3 : Rep.size Tk = 2 := rfl
    rw [h3, hb.cell]
    match j, hu with
    | 0, hu => simp at hu; subst hu; rw [hcell _ (by omega)]; simpa using r0
    | 1, hu => simp at hu; subst hu; rw [hcell _ (by omega)]; simpa using r1
    | j + 2, hu => simp at hu
  · have e : l = [] := List.eq_nil_of_length_eq_zero (by omega)
    subst e
    rcases h.2 with ⟨hv, _⟩ | ⟨g, cap, cur, hv, _, _, hc, hm, _⟩
    · exact ⟨none, 0, hv, Nat.le_refl _, Nat.zero_le _, SlR.nil⟩
    · exact ⟨_, cap, hv, Nat.zero_le _, hm, SlR.nil⟩
theorem infoTk : (Tryz.prog.info? 66).map (fun i => (i.zero, i.size, i.bytes)) = some (some (.agg #[.int .i64 0, .int .i64 0]), 2, 16) := by kernel_rfl
theorem infoTl : (Tryz.prog.info? 28).map (fun i => (i.zero, i.size, i.bytes)) = some (some (.slice none 0 0), 1, 24) := by kernel_rfl
/-- A plan: rows of takes in a row of the call's own. -/
def OwnO (w : World) (base : Nat) (v : Value) (vs : List Value) : Prop := w.ownsRow base 28 1 v vs.length vs
structure Pln (w : World) (vs : List Value) (p : List (List Tk)) : Prop where
  len : vs.length = p.length
  at_ : ∀ k (h1 : k < vs.length) (h2 : k < p.length), OwnT w 0 vs[k] p[k]
  i2 : ∀ l ∈ p, ∀ x ∈ l, I2 x
theorem Pln.slr {w : World} {base : Nat} {v : Value} {vs : List Value} {p : List (List Tk)} (h : OwnO w base v vs) (hp : Pln w vs p) : ∃ A c, v = .slice A p.length c ∧ p.length ≤ c ∧ c ≤ maxLen ∧ SlR w w.heap.size A p := by
  have hl := hp.len
  by_cases h0 : 0 < vs.length
  · obtain ⟨g, cap, cur, hv, _, hb, hc, hm, hcell⟩ := own_cell h h0
    refine ⟨_, cap, by rw [hv, hl], by omega, hm, fun k x hx => ?_⟩
    obtain ⟨hk, rfl⟩ := List.getElem?_eq_some_iff.1 hx
    have hkv : k < vs.length := by omega
    obtain ⟨A', c', hv', a1, a2, a3⟩ := (hp.at_ k hkv hk).slr (hp.i2 _ (List.getElem_mem hk))
    refine ⟨g, 0, [.slice A' p[k].length c'], rfl, hb.lt, rfl, fun j u hu => ?_, ⟨A', c', rfl, a1, a2, a3⟩⟩
    have h4 : Rep.size (List Tk) = 1 := rfl
    rw [h4, hb.cell]
    match j, hu with
    | 0, hu => simp at hu; subst hu; rw [Nat.mul_one, Nat.zero_add, Nat.add_zero, hcell _ (by omega), List.getElem?_eq_getElem hkv, hv']
    | j + 1, hu => simp at hu
  · have e : p = [] := List.eq_nil_of_length_eq_zero (by omega)
    subst e
    rcases h.2 with ⟨hv, _⟩ | ⟨g, cap, cur, hv, _, _, hc, hm, _⟩
    · exact ⟨none, 0, hv, Nat.le_refl _, Nat.zero_le _, SlR.nil⟩
    · have : vs.length = 0 := by omega
      exact ⟨_, cap, by rw [hv, this]; rfl, Nat.zero_le _, hm, SlR.nil⟩
section
variable {ops : Array Oper} {rest : List Oper} {o : Oper} {a : Act} {Q : Exit → Act → World → Prop}
theorem wp_appT (w : World) (hgd : o.guard = none) (s x : Operand) (ho : o.op = .call { callee := .builtin .append, args := #[s, x], argTypes := #[28, 28] })
    (base : Nat) (v : Value) (l : List Tk) (hs : a.eval s = v) (hown : OwnT w base v l) (B c : Nat) (y : Tk) (hx : a.eval x = .slice (some ⟨B, 0, none⟩) 1 c) (hb : Blk w B 66 #[.int .i64 y.1, .int .i64 y.2]) (hlen : l.length ≤ 1000000) (hbase : base ≤ w.heap.size)
    (h : ∀ v' w', OwnT w' base v' (l ++ [y]) → w.grownBy w' v.ownBlock → wpList Tryz.prog ops Q rest (a.put o.dst v') w') : wpList Tryz.prog ops Q (o :: rest) a w := by
  obtain ⟨i0, hi, hz0, hz1, hz2⟩ := info_parts infoTk
  refine wpList_append_own_at w hgd s x 28 ho base 66 i0 _ 2 16 Tryz.underlying28 hi hz0 hz1 hz2 rfl (by omega) v l.length _ hs hown ⟨B, 0, none⟩ 1 c [.int .i64 y.1, .int .i64 y.2] hx (by simp) (fun j u hu => World.news_of_block (show w.heap[B]? = _ from hb) j u (by simpa using hu)) (by simp [Value.oneCell']) (by unfold maxLen; omega) (by omega) hbase ?_
  intro v' w' h1 h2 _ _
  refine h v' w' ?_ h2
  unfold OwnT
  rw [List.length_append, t2_app]
  exact h1
theorem wp_appO (w : World) (hgd : o.guard = none) (s x : Operand) (ho : o.op = .call { callee := .builtin .append, args := #[s, x], argTypes := #[48, 48] })
    (base : Nat) (v : Value) (l : List Value) (hs : a.eval s = v) (hown : OwnO w base v l) (B c : Nat) (y : Value) (hy1 : y.oneCell' = true) (hx : a.eval x = .slice (some ⟨B, 0, none⟩) 1 c) (hb : Blk w B 28 #[y]) (hlen : l.length ≤ 1000000) (hbase : base ≤ w.heap.size)
    (h : ∀ v' w', OwnO w' base v' (l ++ [y]) → w.grownBy w' v.ownBlock → wpList Tryz.prog ops Q rest (a.put o.dst v') w') : wpList Tryz.prog ops Q (o :: rest) a w := by
  obtain ⟨i0, hi, hz0, hz1, hz2⟩ := info_parts infoTl
  refine wpList_append_own_at w hgd s x 48 ho base 28 i0 _ 1 24 Tryz.underlying48 hi hz0 hz1 hz2 rfl (by omega) v l.length _ hs hown ⟨B, 0, none⟩ 1 c [y] hx (by simp) (fun j u hu => World.news_of_block (show w.heap[B]? = _ from hb) j u (by simpa using hu)) (by simpa using hy1) (by unfold maxLen; omega) (by omega) hbase ?_
  intro v' w' h1 h2 _ _
  refine h v' w' ?_ h2
  unfold OwnO
  rw [List.length_append]
  exact h1
end
/-- Growth far up does not count. -/
theorem gr_far {w w1 w2 : World} {r r2 : Option Nat} (h : w.grownBy w1 r) (h2 : w1.grownBy w2 r2) (hf : ∀ q, r2 = some q → w.heap.size ≤ q) : w.grownBy w2 r :=
  ⟨h2.os.trans h.os, h2.tape.trans h.tape, h2.output.trans h.output, Nat.le_trans h.size h2.size, fun k hk hr => (h2.block k (Nat.lt_of_lt_of_le hk h.size) (fun e => by have := hf k e.symm; omega)).trans (h.block k hk hr)⟩
theorem own_one {w : World} {base : Nat} {e : TypeId} {size n : Nat} {v : Value} {xs : List Value} (h : w.ownsRow base e size v n xs) : v.oneCell' = true := by
  rcases h.2 with ⟨rfl, _⟩ | ⟨g, cap, cur, rfl, _⟩ <;> rfl
theorem Pln.snoc {w : World} {vs : List Value} {p : List (List Tk)} (h : Pln w vs p) {v : Value} {l : List Tk} (hv : OwnT w 0 v l) (hi : ∀ x ∈ l, I2 x) : Pln w (vs ++ [v]) (p ++ [l]) := by
  have hl := h.len
  refine ⟨by simp [hl], fun k h1 h2 => ?_, fun l' hl' => ?_⟩
  · by_cases hk : k < vs.length
    · rw [List.getElem_append_left hk, List.getElem_append_left (by omega)]
      exact h.at_ k hk (by omega)
    · have e : k = vs.length := by simp at h1; omega
      subst e
      simpa [hl] using hv
  · rcases List.mem_append.1 hl' with h' | h'
    · exact h.i2 l' h'
    · simp at h'; subst h'; exact hi
theorem Pln.kt {ts : List TypeId} {w w' : World} {vs : List Value} {p : List (List Tk)} (h : Pln w vs p) (hk : KT ts w w') (ht : 66 ∈ ts) : Pln w' vs p := ⟨h.len, fun k h1 h2 => own_kt (h.at_ k h1 h2) hk ht, h.i2⟩
end Go.Proofs.YtfpehakllnkaeaaGreatDoor
