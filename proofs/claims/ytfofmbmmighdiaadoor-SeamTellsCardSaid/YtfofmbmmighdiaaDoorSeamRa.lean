
/- Seam: the reference's desk in memory (printed by gen_seamra.py). -/
import Derived.Test.YtfofmbmmighdiaaDoorSeamQ
import Derived.Deep.AppendLies
set_option linter.unusedSimpArgs false
set_option linter.unusedVariables false
namespace Go.Proofs.YtfofmbmmighdiaaDoor
open Go.RowKit Go.IntWalk

/-- Block b is a desk; its robots lie in a row of the call's own. -/
structure Dr (w : World) (base b : Nat) (v : Value) (me : Int) (rs : List Rob) : Prop where
  d : Blk w b 53 #[.int .i64 me, v]
  r : w.ownsRow base 48 3 v rs.length (rc rs)
theorem Dr.row {w : World} {base b : Nat} {v : Value} {me : Int} {rs : List Rob} (h : Dr w base b v me rs) : ∃ A c, v = .slice A rs.length c ∧ rs.length ≤ c ∧ c ≤ maxLen ∧ (rs ≠ [] → ∃ g, A = some ⟨g, 0, none⟩ ∧ base ≤ g ∧ g < w.heap.size ∧ g ≠ b) := by
  rcases h.r.2 with ⟨hv, hn⟩ | ⟨g, cap, cur, hv, hg, hh, hc, hm, _⟩
  · have : rs = [] := List.eq_nil_of_length_eq_zero hn
    subst this
    exact ⟨none, 0, hv, Nat.le_refl _, Nat.zero_le _, fun h => absurd rfl h⟩
  · refine ⟨some ⟨g, 0, none⟩, cap, hv, hc, hm, fun _ => ⟨g, rfl, hg, (Array.getElem?_eq_some_iff.1 hh).1, ?_⟩⟩
    rintro rfl
    exact Blk.ne_ (t := 48) hh h.d (by decide) rfl
/-- What is known of the robot with the number i. -/
theorem Dr.at_ {w : World} {base b g c : Nat} {me : Int} {rs : List Rob} (h : Dr w base b (.slice (some ⟨g, 0, none⟩) rs.length c) me rs) {i : Nat} (hi : i < rs.length) :
    w.cell? ⟨g, i * 3, none⟩ = some (.int .i64 rs[i].1) ∧ w.cell? ⟨g, i * 3 + 1, none⟩ = some (.int .i64 rs[i].2.1) ∧ w.cell? ⟨g, i * 3 + 2, none⟩ = some (.bool rs[i].2.2) ∧ (∀ j, w.frozen? ⟨g, j, none⟩ = false) := by
  obtain ⟨h0, h1, h2⟩ := rc_at rs i hi
  have hl := rc_len rs
  refine ⟨?_, ?_, ?_, fun j => h.r.frozenAt j⟩
  · rw [h.r.cellAt (i * 3) (by omega)]; exact h0
  · rw [h.r.cellAt (i * 3 + 1) (by omega)]; exact h1
  · rw [h.r.cellAt (i * 3 + 2) (by omega)]; exact h2
theorem Dr.grown {w w' : World} {base b : Nat} {v : Value} {me : Int} {rs : List Rob} {row : Option Nat} (h : Dr w base b v me rs) (hg : w.grownBy w' row) (h1 : v.ownBlock = none ∨ v.ownBlock ≠ row) (h2 : some b ≠ row) : Dr w' base b v me rs :=
  ⟨h.d.grown hg h2, h.r.kept hg h1⟩
theorem Dr.below {w w' : World} {base b : Nat} {v : Value} {me : Int} {rs : List Rob} (h : Dr w base b v me rs) (hb : Below w.heap.size w w') : Dr w' base b v me rs :=
  h.grown (row := none) (grown_b0 hb) (by cases v.ownBlock <;> simp) (by simp)
section
variable {w : World} {base b g c : Nat} {me : Int} {rs : List Rob}
theorem Dr.gne (h : Dr w base b (.slice (some ⟨g, 0, none⟩) rs.length c) me rs) (hn : 0 < rs.length) : g ≠ b ∧ base ≤ g ∧ g < w.heap.size := by
  obtain ⟨A, c', hv, _, _, hg⟩ := h.row
  obtain ⟨g', hA, h1, h2, h3⟩ := hg (by intro h; simp [h] at hn)
  subst hA
  simp only [Value.slice.injEq, Option.some.injEq, Addr.mk.injEq] at hv
  obtain ⟨⟨rfl, _⟩, _⟩ := hv
  exact ⟨h3, h1, h2⟩
/-- One robot's phase, number, or all of it, is written. -/
theorem Dr.set1 (h : Dr w base b (.slice (some ⟨g, 0, none⟩) rs.length c) me rs) {i : Nat} (hi : i < rs.length) (p : Int) :
    Dr (w.setCell ⟨g, i * 3, none⟩ (.int .i64 p)) base b (.slice (some ⟨g, 0, none⟩) rs.length c) me (rs.set i (p, rs[i].2.1, rs[i].2.2)) ∧ w.grownBy (w.setCell ⟨g, i * 3, none⟩ (.int .i64 p)) (some g) := by
  have h1 := h.r.stored (i * 3) (.int .i64 p)
  have hne := (h.gne (by omega)).1
  refine ⟨⟨h.d.far (by simpa using hne.symm) _, ?_⟩, h1.2⟩
  rw [rc_set1 rs i p hi, List.length_set]
  exact h1.1
theorem Dr.set2 (h : Dr w base b (.slice (some ⟨g, 0, none⟩) rs.length c) me rs) {i : Nat} (hi : i < rs.length) (n : Int) :
    Dr (w.setCell ⟨g, i * 3 + 1, none⟩ (.int .i64 n)) base b (.slice (some ⟨g, 0, none⟩) rs.length c) me (rs.set i (rs[i].1, n, rs[i].2.2)) ∧ w.grownBy (w.setCell ⟨g, i * 3 + 1, none⟩ (.int .i64 n)) (some g) := by
  have h1 := h.r.stored (i * 3 + 1) (.int .i64 n)
  have hne := (h.gne (by omega)).1
  refine ⟨⟨h.d.far (by simpa using hne.symm) _, ?_⟩, h1.2⟩
  rw [rc_set2 rs i n hi, List.length_set]
  exact h1.1
theorem Dr.set3 (h : Dr w base b (.slice (some ⟨g, 0, none⟩) rs.length c) me rs) {i : Nat} (hi : i < rs.length) (r : Rob) :
    Dr (((w.setCell ⟨g, i * 3, none⟩ (.int .i64 r.1)).setCell ⟨g, i * 3 + 1, none⟩ (.int .i64 r.2.1)).setCell ⟨g, i * 3 + 2, none⟩ (.bool r.2.2)) base b (.slice (some ⟨g, 0, none⟩) rs.length c) me (rs.set i r) ∧
    w.grownBy (((w.setCell ⟨g, i * 3, none⟩ (.int .i64 r.1)).setCell ⟨g, i * 3 + 1, none⟩ (.int .i64 r.2.1)).setCell ⟨g, i * 3 + 2, none⟩ (.bool r.2.2)) (some g) := by
  have h1 := h.r.stored (i * 3) (.int .i64 r.1)
  have h2 := h1.1.stored (i * 3 + 1) (.int .i64 r.2.1)
  have h3 := h2.1.stored (i * 3 + 2) (.bool r.2.2)
  have hne := (h.gne (by omega)).1
  refine ⟨⟨((h.d.far (by simpa using hne.symm) _).far (by simpa using hne.symm) _).far (by simpa using hne.symm) _, ?_⟩, grown_tr (grown_tr h1.2 h2.2) h3.2⟩
  rw [rc_set rs i r hi, List.length_set]
  exact h3.1
end
theorem dr2 {w : World} {base b : Nat} {v : Value} {me : Int} {rs : List Rob} (h : Dr w base b v me rs) : w.cell? ⟨b, 0, none⟩ = some (.int .i64 me) ∧ w.cell? ⟨b, 1, none⟩ = some v := ⟨h.d.cell 0, h.d.cell 1⟩
theorem Dr.set12 {w : World} {base b g c : Nat} {me : Int} {rs : List Rob} (h : Dr w base b (.slice (some ⟨g, 0, none⟩) rs.length c) me rs) {i : Nat} (hi : i < rs.length) (p n : Int) :
    Dr ((w.setCell ⟨g, i * 3, none⟩ (.int .i64 p)).setCell ⟨g, i * 3 + 1, none⟩ (.int .i64 n)) base b (.slice (some ⟨g, 0, none⟩) rs.length c) me (rs.set i (p, n, rs[i].2.2)) ∧
    w.grownBy ((w.setCell ⟨g, i * 3, none⟩ (.int .i64 p)).setCell ⟨g, i * 3 + 1, none⟩ (.int .i64 n)) (some g) := by
  have h1 := h.r.stored (i * 3) (.int .i64 p)
  have h2 := h1.1.stored (i * 3 + 1) (.int .i64 n)
  have hne := (h.gne (by omega)).1
  refine ⟨⟨(h.d.far (by simpa using hne.symm) _).far (by simpa using hne.symm) _, ?_⟩, grown_tr h1.2 h2.2⟩
  rw [rc_set12 rs i p n hi, List.length_set]
  exact h2.1
theorem infoRr : (Tryd.prog.info? 48).map (fun i => (i.zero, i.size, i.bytes)) = some (some (.agg #[.int .i64 0, .int .i64 0, .bool false]), 3, 24) := by kernel_rfl
theorem step_appRr {ops : Array Oper} {o : Oper} {a : Act} {K : Act → World → Prop} {Q : Exit → Act → World → Prop} {E : Prop} (w : World) (hgd : o.guard = none) (s x : Operand)
    (ho : o.op = .call { callee := .builtin .append, args := #[s, x], argTypes := #[51, 51] })
    (base : Nat) (v : Value) (rs : List Rob) (hs : a.eval s = v) (hown : w.ownsRow base 48 3 v rs.length (rc rs)) (B : Nat) (r : Rob) (hx : a.eval x = .slice (some ⟨B, 0, none⟩) 1 1)
    (hb : Blk w B 48 #[.int .i64 r.1, .int .i64 r.2.1, .bool r.2.2]) (hlen : rs.length ≤ 1000000) (hbase : base ≤ w.heap.size)
    (h : ∀ g cap w', w'.ownsRow base 48 3 (.slice (some ⟨g, 0, none⟩) (rs.length + 1) cap) (rs ++ [r]).length (rc (rs ++ [r])) → w.grownBy w' v.ownBlock → (v.ownBlock = some g ∨ g = w.heap.size) → g < w'.heap.size → K (a.put o.dst (.slice (some ⟨g, 0, none⟩) (rs.length + 1) cap)) w') :
    if Region.wanted o (yielded ops a.tmps) = true then Oper.wp Tryd.prog o a w K Q else E := by
  obtain ⟨i0, hi, hz0, hz1, hz2⟩ := info_parts infoRr
  refine step_append_lies w hgd s x 51 ho base 48 i0 _ 3 24 Tryd.underlying51 hi hz0 hz1 hz2 rfl (by omega) v rs.length (rc rs) hs hown ⟨B, 0, none⟩ 1 1 [.int .i64 r.1, .int .i64 r.2.1, .bool r.2.2] hx rfl ?_ ?_ (by omega) (by unfold maxLen; omega) (by omega) hbase _ rfl ?_
  · exact World.news_of_block (w := w) (B := B) hb
  · intro u hu
    simp at hu
    rcases hu with rfl | rfl | rfl <;> simp [Value.oneCell']
  · intro g cap w' h1 h2 h3 h4
    refine h g cap w' ?_ h2 h3 h4
    rw [rc_app, List.length_append]
    exact h1
theorem Dr.dn {w : World} {base b : Nat} {v : Value} {me : Int} {rs : List Rob} (h : Dr w base b v me rs) : v.ownBlock ≠ some b := own_blk_ne h.r h.d (by decide)
theorem Dr.alloc {w : World} {base b : Nat} {v : Value} {me : Int} {rs : List Rob} (h : Dr w base b v me rs) (o : Obj) : Dr (w.alloc o) base b v me rs := h.below (by (repeat (first | exact Below.refl _ _ | assumption | refine below_drewN ?_ _ | refine Below.drew ?_ | refine Below.alloc ?_ (by (try simp); (try omega)) _ | refine Below.setCell ?_ (by (try simp); (try omega)) _)))
theorem Dr.drew {w : World} {base b : Nat} {v : Value} {me : Int} {rs : List Rob} (h : Dr w base b v me rs) : Dr w.drew base b v me rs := ⟨h.d, h.r⟩
theorem dr_app {W w1 : World} {base b : Nat} {v : Value} {me : Int} {rs : List Rob} {r : Rob} {g cap : Nat} (hD : Dr W base b v me rs)
    (ho : w1.ownsRow base 48 3 (.slice (some ⟨g, 0, none⟩) (rs.length + 1) cap) (rs ++ [r]).length (rc (rs ++ [r]))) (hgr : W.grownBy w1 v.ownBlock) (hat : v.ownBlock = some g ∨ g = W.heap.size) :
    Dr (w1.setCell ⟨b, 1, none⟩ (.slice (some ⟨g, 0, none⟩) (rs.length + 1) cap)) base b (.slice (some ⟨g, 0, none⟩) (rs.length + 1) cap) me (rs ++ [r]) := by
  have hlt := hD.d.lt
  have hgb : g ≠ b := by
    rcases hat with h | h
    · rintro rfl; exact hD.dn h
    · omega
  refine ⟨?_, ho.kept (grown_s w1 b 1 _) (.inr ?_)⟩
  · have := (Blk.grown hD.d hgr (fun e => hD.dn e.symm)).set_ 1 (.slice (some ⟨g, 0, none⟩) (rs.length + 1) cap)
    simpa using this
  · simpa [Value.ownBlock] using hgb
/-- A desk of the program, and one of the reference: their rows are two. -/
theorem Dr.low {w0 w w' : World} {base b : Nat} {v : Value} {me : Int} {rs : List Rob} (h : Dr w base b v me rs) (hB : Below w0.heap.size w0 w) (hb : w0.heap.size ≤ base) (hg : w.grownBy w' v.ownBlock) : Below w0.heap.size w0 w' :=
  hB.grown hg hB.size (fun j hj => by have := (h.r.lt j hj).1; omega)
theorem row_apart {w : World} {base base' n n' s s' : Nat} {e e' : TypeId} {v v' : Value} {xs xs' : List Value} (h : w.ownsRow base e s v n xs) (h' : w.ownsRow base' e' s' v' n' xs') (hne : e ≠ e') : v.ownBlock = none ∨ v.ownBlock ≠ v'.ownBlock := by
  rcases h.2 with ⟨rfl, _⟩ | ⟨g, cap, cur, rfl, _, hh, _⟩
  · exact .inl rfl
  · refine .inr fun e9 => ?_
    rcases h'.2 with ⟨rfl, _⟩ | ⟨g', cap', cur', rfl, _, hh', _⟩
    · cases e9
    · have : g = g' := by injection e9
      subst this
      rw [hh] at hh'
      injection hh' with hh'
      injection hh' with _ h2 _
      exact hne h2
theorem Dr.beside {w w' : World} {base base' b b' : Nat} {v v' : Value} {me me' : Int} {rs rs' : List Rob} (h : Dr w base b v me rs) (h' : Dk w base' b' v' me' rs') (hg : w.grownBy w' v'.ownBlock) : Dr w' base b v me rs :=
  h.grown hg (row_apart h.r h'.r (by decide)) (fun e => own_blk_ne h'.r h.d (by decide) e.symm)
theorem Dk.aside {w w' : World} {base base' b b' : Nat} {v v' : Value} {me me' : Int} {rs rs' : List Rob} (h : Dk w base b v me rs) (h' : Dr w base' b' v' me' rs') (hg : w.grownBy w' v'.ownBlock) : Dk w' base b v me rs :=
  h.grown hg (row_apart h.r h'.r (by decide)) (fun e => own_blk_ne h'.r h.d (by decide) e.symm)
/-- Is there such a robot? -/
def isR (rs : List Rob) (i : Int) : Bool := decide (0 ≤ i ∧ i < rs.length)
set_option maxRecDepth 100000 in
set_option maxHeartbeats 400000 in
theorem ris_any {w : World} {base b : Nat} {v : Value} {me : Int} {rs : List Rob} (h : Dr w base b v me rs) (i : Int) : Calls Tryd.prog 57 #[.pointer (some ⟨b, 0, none⟩), .int .i64 i] w fun e w' => e = .returned (.bool (isR rs i)) ∧ w = w' := by
  obtain ⟨A, c, rfl, _, _, _⟩ := h.row
  obtain ⟨d0, d1⟩ := dr2 h
  have hz := h.d.lt
  by_cases hi : 0 ≤ i
  · have hr := hid (show isR rs i = decide (i < rs.length) by simp [isR, hi])
    go_enter Tryd.func57, Tryd.ntmps57
    go_wp2_with fail
    go_ret
    exact ⟨ret_bool hr.out.symm, rfl⟩
  · have hr := hid (show isR rs i = false by simp [isR, hi])
    go_enter Tryd.func57, Tryd.ntmps57
    go_wp2_with fail
    go_ret
    exact ⟨ret_bool hr.out.symm, rfl⟩
/-- Get's answer. -/
def GtRes (w : World) (r : Rob) (e : Ending) (w' : World) : Prop := e = .returned (.agg #[.int .i64 r.1, .int .i64 r.2.1, .bool r.2.2]) ∧ Below w.heap.size w w'
set_option maxRecDepth 100000 in
set_option maxHeartbeats 400000 in
theorem rget_any {w : World} {base b : Nat} {v : Value} {me : Int} {rs : List Rob} (h : Dr w base b v me rs) (i : Int) : Calls Tryd.prog 24 #[.pointer (some ⟨b, 0, none⟩), .int .i64 i] w (GtRes w (getR rs i)) := by
  have hB := hid (show Below w.heap.size w (w.alloc (Obj.cells #[.int .i64 0, .int .i64 0, .bool false] 48)) by (repeat (first | exact Below.refl _ _ | assumption | refine below_drewN ?_ _ | refine Below.drew ?_ | refine Below.alloc ?_ (by (try simp); (try omega)) _ | refine Below.setCell ?_ (by (try simp); (try omega)) _)))
  have h1 := h.below hB.out
  by_cases hi : i < 0 ∨ (rs.length : Int) ≤ i
  · have hr := hid (getR_no hi)
    have his := hid (show isR rs i = false by simp [isR]; omega)
    clear hi
    go_enter Tryd.func24, Tryd.ntmps24
    go_wp2_with fail
    refine (ris_any h1 i).mono ?_
    rw [his.out]
    rintro e w' ⟨rfl, rfl⟩
    go_wp2_with fail
    refine bodyPost_ret (v := .agg #[.int .i64 0, .int .i64 0, .bool false]) (by simp [results, Tryd.results24, go_sem]) rfl ?_
    rw [hr.out]
    exact ⟨rfl, by (repeat (first | exact Below.refl _ _ | assumption | refine below_drewN ?_ _ | refine Below.drew ?_ | refine Below.alloc ?_ (by (try simp); (try omega)) _ | refine Below.setCell ?_ (by (try simp); (try omega)) _))⟩
  · obtain ⟨k, rfl⟩ : ∃ k : Nat, i = k := ⟨i.toNat, by omega⟩
    have hk : k < rs.length := by omega
    have his := hid (show isR rs k = true by simp [isR]; omega)
    obtain ⟨A, c, rfl, _, _, hg⟩ := h.row
    obtain ⟨g, rfl, _, hgz, _⟩ := hg (by intro hh; simp [hh] at hk)
    obtain ⟨d0, d1⟩ := dr2 h
    have hzb := h.d.lt
    obtain ⟨x0, x1, x2, fz⟩ := h.at_ hk
    clear fz
    have hgr := hid (getR_yes hk)
    have hkl : (k : Int) < rs.length := by omega
    generalize rs[k] = r at *
    obtain ⟨p, n, f⟩ := r
    simp only at x0 x1 x2
    clear hi
    go_enter Tryd.func24, Tryd.ntmps24
    go_wp2_with fail
    refine (ris_any h1 k).mono ?_
    rw [his.out]
    rintro e w' ⟨rfl, rfl⟩
    go_wp2_with fail
    refine bodyPost_ret (v := .agg #[.int .i64 p, .int .i64 n, .bool f]) (by simp [results, Tryd.results24, go_sem]) rfl ?_
    rw [hgr.out]
    exact ⟨rfl, by (repeat (first | exact Below.refl _ _ | assumption | refine below_drewN ?_ _ | refine Below.drew ?_ | refine Below.alloc ?_ (by (try simp); (try omega)) _ | refine Below.setCell ?_ (by (try simp); (try omega)) _))⟩
end Go.Proofs.YtfofmbmmighdiaaDoor
