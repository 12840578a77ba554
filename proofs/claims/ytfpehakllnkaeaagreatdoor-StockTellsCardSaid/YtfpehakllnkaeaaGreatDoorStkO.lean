
/- Stock: lots in rows of the call's own; Recall. -/
import Derived.Test.YtfpehakllnkaeaaGreatDoorStkN
set_option linter.unusedSimpArgs false
set_option linter.unusedVariables false
namespace Go.Proofs.YtfpehakllnkaeaaGreatDoor
open Go.RowKit Go.IntWalk

def l3 (l : List Lt) : List Value := l.flatMap fun x => [.int .i64 x.1, .int .i64 x.2.1, .bool x.2.2]
theorem l3_len (l : List Lt) : (l3 l).length = l.length * 3 := by induction l with | nil => rfl | cons a l ih => simp [l3, List.flatMap_cons] at ih ⊢; omega
theorem l3_app (a b : List Lt) : l3 (a ++ b) = l3 a ++ l3 b := by simp [l3]
theorem l3_at : ∀ (l : List Lt) (k : Nat) (hk : k < l.length), (l3 l)[k * 3]? = some (.int .i64 l[k].1) ∧ (l3 l)[k * 3 + 1]? = some (.int .i64 l[k].2.1) ∧ (l3 l)[k * 3 + 2]? = some (.bool l[k].2.2)
  | x :: l, 0, _ => by simp [l3]
  | x :: l, k + 1, hk => by
    have := l3_at l k (by simpa using hk)
    have e : l3 (x :: l) = .int .i64 x.1 :: .int .i64 x.2.1 :: .bool x.2.2 :: l3 l := rfl
    rw [e, show (k + 1) * 3 = k * 3 + 3 by omega]
    simpa using this
theorem l3_one (l : List Lt) : ∀ v ∈ l3 l, v.oneCell' = true := by
  intro u hu
  obtain ⟨b, _, hb⟩ := List.mem_flatMap.1 hu
  simp at hb
  rcases hb with rfl | rfl | rfl <;> rfl
theorem l3_set : ∀ (l : List Lt) (k : Nat) (hk : k < l.length) (n : Bool), (l3 l).set (k * 3 + 2) (.bool n) = l3 (l.set k (l[k].1, l[k].2.1, n))
  | x :: l, 0, _, n => by simp [l3]
  | x :: l, k + 1, hk, n => by
    have := l3_set l k (by simpa using hk) n
    have e : l3 (x :: l) = .int .i64 x.1 :: .int .i64 x.2.1 :: .bool x.2.2 :: l3 l := rfl
    rw [e, show (k + 1) * 3 + 2 = (k * 3 + 2) + 1 + 1 + 1 by omega]
    simp only [List.set_cons_succ, this, List.getElem_cons_succ]
    rfl
def OwnZ (w : World) (base : Nat) (v : Value) (l : List Lt) : Prop := w.ownsRow base 40 3 v l.length (l3 l)
/-- The cells of a list of boxes that can be read. -/
theorem SlR.l3c {w : World} {B b off : Nat} {l : List Lt} (h : SlR w B (some ⟨b, off, none⟩) l) : ∀ (j : Nat) (u : Value), (l3 l)[j]? = some u → w.cell? ((⟨b, off, none⟩ : Addr).add j) = some u := by
  intro j u hu
  have hj : j < l.length * 3 := by rw [← l3_len]; exact (List.getElem?_eq_some_iff.1 hu).1
  have hk : j / 3 < l.length := by omega
  obtain ⟨b', off', hA, _, c0, c1, c2, _⟩ := h.lt hk
  injection hA with hA
  injection hA with e1 e2 _
  subst e1 e2
  obtain ⟨r0, r1, r2⟩ := l3_at l (j / 3) hk
  have hadd : (⟨b, off, none⟩ : Addr).add j = ⟨b, off + j, none⟩ := by unfold Addr.add; by_cases h0 : j = 0 <;> simp [h0]
  rw [hadd]
  have hm : j % 3 = 0 ∨ j % 3 = 1 ∨ j % 3 = 2 := by omega
  rcases hm with hm | hm | hm
  · have e : j = j / 3 * 3 := by omega
    rw [e, r0] at hu
    rw [e, c0, hu]
  · have e : j = j / 3 * 3 + 1 := by omega
    rw [e, r1] at hu
    rw [e, ← Nat.add_assoc, c1, hu]
  · have e : j = j / 3 * 3 + 2 := by omega
    rw [e, r2] at hu
    rw [e, ← Nat.add_assoc, c2, hu]
theorem OwnZ.slr {w : World} {base : Nat} {v : Value} {l : List Lt} (h : OwnZ w base v l) (hi : ∀ x ∈ l, I64 x.1 ∧ I64 x.2.1) : ∃ A c, v = .slice A l.length c ∧ l.length ≤ c ∧ c ≤ maxLen ∧ SlR w w.heap.size A l := by
  by_cases h0 : 0 < l.length
  · obtain ⟨g, cap, cur, hv, _, hb, hc, hm, hcell⟩ := own_cell h h0
    refine ⟨_, cap, hv, hc, hm, fun k x hx => ?_⟩
    obtain ⟨hk, rfl⟩ := List.getElem?_eq_some_iff.1 hx
    obtain ⟨i0, i1⟩ := hi _ (List.getElem_mem hk)
    obtain ⟨r0, r1, r2⟩ := l3_at l k hk
    refine ⟨g, 0, [.int .i64 l[k].1, .int .i64 l[k].2.1, .bool l[k].2.2], rfl, hb.lt, rfl, fun j u hu => ?_, [.int .i64 l[k].1], [.int .i64 l[k].2.1, .bool l[k].2.2], rfl, rfl, rfl, ⟨rfl, i0⟩, [.int .i64 l[k].2.1], [.bool l[k].2.2], rfl, rfl, rfl, ⟨rfl, i1⟩, rfl⟩
    have h3 : Rep.size Lt = 3 := rfl
    rw [h3, hb.cell]
    match j, hu with
    | 0, hu => simp at hu; subst hu; rw [hcell _ (by omega)]; simpa using r0
    | 1, hu => simp at hu; subst hu; rw [hcell _ (by omega)]; simpa using r1
    | 2, hu => simp at hu; subst hu; rw [hcell _ (by omega)]; simpa using r2
    | j + 3, hu => simp at hu
  · have e : l = [] := List.eq_nil_of_length_eq_zero (by omega)
    subst e
    rcases h.2 with ⟨hv, _⟩ | ⟨g, cap, cur, hv, _, _, hc, hm, _⟩
    · exact ⟨none, 0, hv, Nat.le_refl _, Nat.zero_le _, SlR.nil⟩
    · exact ⟨_, cap, hv, Nat.zero_le _, hm, SlR.nil⟩
theorem OwnZ.setFrz {w : World} {base g c n : Nat} {l : List Lt} (h : OwnZ w base (.slice (some ⟨g, 0, none⟩) n c) l) {k : Nat} (hk : k < l.length) (y : Bool) : OwnZ (w.setCell ⟨g, k * 3 + 2, none⟩ (.bool y)) base (.slice (some ⟨g, 0, none⟩) n c) (l.set k (l[k].1, l[k].2.1, y)) := by
  have hn : n = l.length := by
    obtain ⟨A, c', e⟩ := own_form h
    injection e
  subst hn
  have h9 := own_set h (k := k * 3 + 2) (by omega) (.bool y)
  rw [l3_set l k hk y] at h9
  unfold OwnZ
  rw [List.length_set]
  exact h9
theorem OwnZ.at_ {w : World} {base g c n : Nat} {l : List Lt} (h : OwnZ w base (.slice (some ⟨g, 0, none⟩) n c) l) {k : Nat} (hk : k < l.length) : w.cell? ⟨g, k * 3, none⟩ = some (.int .i64 l[k].1) ∧ w.cell? ⟨g, k * 3 + 1, none⟩ = some (.int .i64 l[k].2.1) ∧ w.cell? ⟨g, k * 3 + 2, none⟩ = some (.bool l[k].2.2) ∧ g < w.heap.size ∧ ∀ o, w.frozen? ⟨g, o, none⟩ = false := by
  obtain ⟨g', cap, cur, hv, _, hb, hc, hm, hcell⟩ := own_cell h (by omega)
  injection hv with hv _ _
  injection hv with hv
  injection hv with hv
  subst hv
  obtain ⟨r0, r1, r2⟩ := l3_at l k hk
  exact ⟨by rw [hb.cell, hcell _ (by omega), r0], by rw [hb.cell, hcell _ (by omega), r1], by rw [hb.cell, hcell _ (by omega), r2], hb.lt, fun o => hb.frozen o⟩
theorem infoLt : (Tryz.prog.info? 40).map (fun i => (i.zero, i.size, i.bytes)) = some (some (.agg #[.int .i64 0, .int .i64 0, .bool false]), 3, 24) := by kernel_rfl
section
variable {ops : Array Oper} {rest : List Oper} {o : Oper} {a : Act} {Q : Exit → Act → World → Prop}
/-- append of boxes that can be read, onto a row of the call's own. -/
theorem wp_appZs (w : World) (hgd : o.guard = none) (s x : Operand) (ho : o.op = .call { callee := .builtin .append, args := #[s, x], argTypes := #[23, 23] })
    (base : Nat) (v : Value) (l : List Lt) (hs : a.eval s = v) (hown : OwnZ w base v l) (A : Option Addr) (c : Nat) (ys : List Lt) (hx : a.eval x = .slice A ys.length c) {B : Nat} (hsl : SlR w B A ys) (hlen : l.length + ys.length ≤ 1000000) (hbase : base ≤ w.heap.size)
    (h : ∀ v' w', OwnZ w' base v' (l ++ ys) → w.grownBy w' v.ownBlock → wpList Tryz.prog ops Q rest (a.put o.dst v') w') : wpList Tryz.prog ops Q (o :: rest) a w := by
  obtain ⟨i0, hi, hz0, hz1, hz2⟩ := info_parts infoLt
  by_cases h0 : 0 < ys.length
  · obtain ⟨b, off, rfl, _⟩ := hsl.lt h0
    refine wpList_append_own_at w hgd s x 23 ho base 40 i0 _ 3 24 Tryz.underlying23 hi hz0 hz1 hz2 rfl (by omega) v l.length _ hs hown ⟨b, off, none⟩ ys.length c (l3 ys) hx (l3_len ys) hsl.l3c (l3_one ys) (by unfold maxLen; omega) (by omega) hbase ?_
    intro v' w' h1 h2 _ _
    refine h v' w' ?_ h2
    unfold OwnZ
    rw [List.length_append, l3_app]
    exact h1
  · have e : ys = [] := List.eq_nil_of_length_eq_zero (by omega)
    subst e
    obtain ⟨A1, c1, rfl, hnc⟩ : ∃ A1 c1, v = .slice A1 l.length c1 ∧ l.length ≤ c1 := by
      rcases hown.2 with ⟨rfl, hn⟩ | ⟨g, cap, cur, rfl, _, _, hc, _⟩
      · exact ⟨none, 0, by rw [hn], by omega⟩
      · exact ⟨_, cap, rfl, hc⟩
    refine wpList_plain hgd fun K hK => ?_
    have hr := run_append0 Tryz.underlying23 (by intro k h; cases h) hi w o.type A1 A l.length c1 c hnc
    unfold Oper.wp execOp
    simp only [ho, resolve, invoke, builtin, Sem.run_bind, Sem.run_pure, Result.andThen_ok, List.map_toArray, List.map_cons, List.map_nil, hs, hx, List.length_nil, hr]
    exact hK _ _ (h _ w (by simpa using hown) (World.grownBy.refl _ _))
end
set_option maxRecDepth 100000 in
set_option maxHeartbeats 1000000 in
theorem cloneL_any (A : Option Addr) (c : Nat) (bs : List Lt) (w : World) (hl : bs.length ≤ 100000) (h : SlR w w.heap.size A bs) :
    Calls Tryz.prog 65 #[.slice A bs.length c] w fun e w' => ∃ v, e = .returned v ∧ OwnZ w' w.heap.size v bs ∧ Below w.heap.size w w' := by
  have hn1 := fun W => Lib.run_eql_slice_nil (P := Tryz.prog) W 23 40 A bs.length c 0 0 Tryz.underlying23
  cases A with
  | none =>
    simp only [Option.isNone_none] at hn1
    have hb : bs.length = 0 := by
      rcases Nat.eq_zero_or_pos bs.length with h0 | h0
      · exact h0
      · obtain ⟨b, off, hA, _⟩ := h.lt h0; cases hA
    have e : bs = [] := List.eq_nil_of_length_eq_zero hb
    subst e
    clear hn1
    have hn2 := fun W => Lib.run_eql_slice_nil (P := Tryz.prog) W 23 40 none 0 c 0 0 Tryz.underlying23
    simp only [Option.isNone_none] at hn2
    rw [List.length_nil]
    go_enter Tryz.func65, Tryz.ntmps65
    go_wp2_with fail
    go_ret
    exact ⟨_, rfl, ⟨rfl, .inl ⟨rfl, rfl⟩⟩, Below.refl _ _⟩
  | some ad =>
    simp only [Option.isNone_some] at hn1
    have b1 := hid ((Below.refl w.heap.size w).alloc (Nat.le_refl _) (Obj.cells #[] 40))
    have O1 := hid (show OwnZ (w.alloc (Obj.cells #[] 40)) w.heap.size (.slice (some ⟨w.heap.size, 0, none⟩) 0 0) [] from ⟨rfl, .inr ⟨_, 0, #[], rfl, Nat.le_refl _, Blk.new w 40 #[], Nat.le_refl _, by unfold maxLen; omega, rfl, rfl⟩⟩)
    have H1 := hid (h.below b1.out)
    clear h
    go_enter Tryz.func65, Tryz.ntmps65
    go_wp2_with (at_builtin; refine wp_appZs _ rfl (.tmp 5) (.tmp 6) rfl w.heap.size (.slice (some ⟨w.heap.size, 0, none⟩) 0 0) [] rfl O1.out (some ad) c bs rfl H1.out (by simp; omega) b1.out.size ?_; intro v1 w1 ho1 hg1; have HO := hid ho1; have HB := hid (b1.out.grown hg1 b1.out.size (fun q e => (own_blk O1.out q e).1)); clear ho1 hg1)
    clear hn1
    go_wp2_with fail
    go_ret
    exact ⟨_, rfl, by simpa using HO.out, HB.out⟩


/-- What Recall hands back. -/
def recL (lots : List Lt) (n : Int) : List Lt × Int :=
  if 0 ≤ n ∧ n < lots.length then (lots.set n.toNat ((lots.getD n.toNat (0, 0, false)).1, (lots.getD n.toNat (0, 0, false)).2.1, true), 0) else ([], 4)
def RecR (w : World) (lots : List Lt) (n : Int) (e : Ending) (w' : World) : Prop :=
  ∃ (A : Option Addr) (c : Nat), e = .returned (.tuple #[.slice A (recL lots n).1.length c, .int .i64 (recL lots n).2]) ∧ (recL lots n).1.length ≤ maxLen ∧ SlR w' w'.heap.size A (recL lots n).1 ∧ Below w.heap.size w w'
theorem SlR.li {w : World} {B : Nat} {A : Option Addr} {l : List Lt} (h : SlR w B A l) : ∀ x ∈ l, I64 x.1 ∧ I64 x.2.1 := fun x hx => by
  obtain ⟨k, hk, rfl⟩ := List.mem_iff_getElem.1 hx
  obtain ⟨_, _, _, _, _, _, _, i0, i1⟩ := h.lt hk
  exact ⟨i0, i1⟩
set_option maxRecDepth 100000 in
set_option maxHeartbeats 4000000 in
theorem recall_any (A : Option Addr) (c : Nat) (lots : List Lt) (n : Int) (w : World) (hl : lots.length ≤ 100000) (h : SlR w w.heap.size A lots) :
    Calls Tryz.prog 26 #[.slice A lots.length c, .int .i64 n] w (RecR w lots n) := by
  have hmx : lots.length ≤ maxLen := by unfold maxLen; omega
  have HB := hid (between_any n 0 ((lots.length : Int) - 1))
  have HC := hid (fun W (hB : Below w.heap.size w W) => cloneL_any A c lots W hl ((h.below hB).more hB.size))
  have hi := hid h.li
  have hwr : IntKind.i64.wrap ((lots.length : Int) - 1) = (lots.length : Int) - 1 := IntWalk.i64_in _ (by omega)
  clear h
  have hbt : btw n 0 ((lots.length : Int) - 1) = decide (0 ≤ n ∧ n < lots.length) := by
    unfold btw
    rw [← Bool.decide_and]
    congr 1
    apply propext
    omega
  by_cases hin : 0 ≤ n ∧ n < lots.length
  · rw [decide_eq_true hin] at hbt
    rw [hbt] at HB
    have hlt : n < lots.length := hin.2
    obtain ⟨k, rfl⟩ := Int.eq_ofNat_of_zero_le hin.1
    have hk : k < lots.length := by omega
    have hr := hid (show recL lots (k : Int) = (lots.set k (lots[k].1, lots[k].2.1, true), 0) by unfold recL; rw [if_pos hin]; simp [hk])
    clear hbt hin
    go_enter Tryz.func26, Tryz.ntmps26
    go_wp2_with fail
    refine (HB.out _).mono ?_
    rintro e w2 ⟨rfl, hB⟩
    have B2 := hid hB
    have HC2 := hid (HC.out w2 B2.out)
    clear hB HC HB
    go_wp2_with fail
    refine HC2.out.mono ?_
    rintro e w3 ⟨v3, rfl, ho3, hB3⟩
    have B3 := hid (B2.out.trans (hB3.mono B2.out.size))
    have O3 := hid (own_base ho3 B2.out.size)
    clear ho3 hB3 HC2 B2
    obtain ⟨g, c3, rfl, hgb⟩ : ∃ g c3, v3 = .slice (some ⟨g, 0, none⟩) lots.length c3 ∧ w.heap.size ≤ g := by
      rcases O3.out.2 with ⟨hv, h0⟩ | ⟨g, cap, cur, hv, hg, hh, _⟩
      · omega
      · exact ⟨g, cap, hv, hg⟩
    have O4 := hid (show OwnZ w3 w.heap.size (.slice (some ⟨g, 0, none⟩) lots.length c3) lots from O3.out)
    have O5 := hid (O4.out.setFrz hk true)
    obtain ⟨q0, q1, q2, xz, xf⟩ := O4.out.at_ hk
    have xf2 := xf (k * 3 + 2)
    have B5 := hid (B3.out.setCell (p := ⟨g, k * 3 + 2, none⟩) (by exact hgb) (.bool true))
    obtain ⟨A9, c9, h9, _, h91, h92⟩ := O5.out.slr (fun x hx => by
      rcases List.mem_or_eq_of_mem_set hx with hx | rfl
      · exact hi.out x hx
      · have := hi.out lots[k] (List.getElem_mem hk)
        exact this)
    rw [List.length_set] at h9
    injection h9 with h9 h9b h9c
    subst h9 h9c
    have Q9 := hid h92
    clear h92 xf O3 O4 O5 B3 q0 q1
    go_wp2_with fail
    refine bodyPost_ret (v := .tuple #[.slice (some ⟨g, 0, none⟩) lots.length c3, .int .i64 0]) (by simp [results, Tryz.results26, go_sem]) rfl ?_
    exact ⟨_, c3, by rw [hr.out, List.length_set], by rw [hr.out, List.length_set]; exact hmx, by rw [hr.out]; exact Q9.out, B5.out⟩
  · have hr := hid (show recL lots n = ([], 4) by unfold recL; rw [if_neg hin])
    rw [decide_eq_false hin] at hbt
    rw [hbt] at HB
    clear hbt hin HC
    go_enter Tryz.func26, Tryz.ntmps26
    go_wp2_with fail
    refine (HB.out _).mono ?_
    rintro e w2 ⟨rfl, hB⟩
    have B2 := hid hB
    clear hB HB
    go_wp2_with fail
    refine bodyPost_ret (v := .tuple #[.slice none 0 0, .int .i64 4]) (by simp [results, Tryz.results26, go_sem]) rfl ?_
    exact ⟨none, 0, by rw [hr.out]; rfl, by rw [hr.out]; exact Nat.zero_le _, by rw [hr.out]; exact SlR.nil, B2.out⟩
end Go.Proofs.YtfpehakllnkaeaaGreatDoor
