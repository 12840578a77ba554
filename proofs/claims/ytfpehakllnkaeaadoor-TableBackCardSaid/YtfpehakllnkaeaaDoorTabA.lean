
/- Table: cmp.Compare, the library's binary search over rows and over moves, Row and move. -/
import Derived.Test.YtfpehakllnkaeaaDoorTabP
import Derived.Test.YtfpehakllnkaeaaDoorTabR
set_option linter.unusedSimpArgs false
set_option linter.unusedVariables false
namespace Go.Proofs.YtfpehakllnkaeaaDoor
open Go.RowKit Go.IntWalk Go.Shelf

def cmpI (x y : Int) : Int := if x < y then -1 else if y < x then 1 else 0
set_option maxRecDepth 100000 in
theorem isNaN_any (x : Int) (w : World) : Calls Tryd.prog 74 #[.int .i64 x] w fun e w' => e = .returned (.bool false) ∧ Below w.heap.size w w' := by
  go_enter Tryd.func74, Tryd.ntmps74
  go_wp2_with fail
  go_ret
  exact ⟨rfl, Below.refl _ _⟩
set_option maxRecDepth 100000 in
theorem compare_any (x y : Int) (w : World) : Calls Tryd.prog 58 #[.int .i64 x, .int .i64 y] w fun e w' => e = .returned (.int .i64 (cmpI x y)) ∧ Below w.heap.size w w' := by
  have HN := hid isNaN_any
  go_enter Tryd.func58, Tryd.ntmps58
  go_wp2_with fail
  refine (HN.out _ _).mono ?_
  rintro e w2 ⟨rfl, hB2⟩
  have B2 := hid hB2
  clear hB2
  go_wp2_with fail
  refine (HN.out _ _).mono ?_
  rintro e w3 ⟨rfl, hB3⟩
  have B3 := hid (B2.out.trans (hB3.mono B2.out.size))
  clear hB3 B2
  by_cases h1 : x < y
  · have hc := hid (show cmpI x y = -1 by simp [cmpI, h1])
    as_aux_lemma =>
      go_wp2_with fail
      go_ret
      exact ⟨ret_int hc.out.symm, B3.out⟩
  · by_cases h2 : y < x
    · have hc := hid (show cmpI x y = 1 by simp [cmpI, h1, h2])
      as_aux_lemma =>
        go_wp2_with fail
        go_ret
        exact ⟨ret_int hc.out.symm, B3.out⟩
    · have hc := hid (show cmpI x y = 0 by simp [cmpI, h1, h2])
      as_aux_lemma =>
        go_wp2_with fail
        go_ret
        exact ⟨ret_int hc.out.symm, B3.out⟩
/-! ### The keys -/
abbrev rwV (x : Row) : Value := .agg #[.int .i64 x.1, .int .i64 x.2.1, .int .i64 x.2.2]
set_option maxRecDepth 100000 in
theorem rkey_any (x : Row) (w : World) : Calls Tryd.prog 69 #[.agg #[.int .i64 x.1, .int .i64 x.2.1, .int .i64 x.2.2]] w fun e w' => e = .returned (.int .i64 x.1) ∧ Below w.heap.size w w' := by
  go_enter Tryd.func69, Tryd.ntmps69
  go_wp2_with fail
  go_ret
  exact ⟨rfl, by (repeat (first | exact Below.refl _ _ | assumption | refine below_drewN ?_ _ | refine Below.drew ?_ | refine Below.alloc ?_ (by (try simp); (try omega)) _ | refine Below.setCell ?_ (by (try simp); (try omega)) _))⟩
set_option maxRecDepth 100000 in
theorem mkey_any (a : Int) (A : Option Addr) (n c : Nat) (w : World) : Calls Tryd.prog 71 #[.agg #[.int .i64 a, .slice A n c]] w fun e w' => e = .returned (.int .i64 a) ∧ Below w.heap.size w w' := by
  go_enter Tryd.func71, Tryd.ntmps71
  go_wp2_with fail
  go_ret
  exact ⟨rfl, by (repeat (first | exact Below.refl _ _ | assumption | refine below_drewN ?_ _ | refine Below.drew ?_ | refine Below.alloc ?_ (by (try simp); (try omega)) _ | refine Below.setCell ?_ (by (try simp); (try omega)) _))⟩
set_option maxRecDepth 100000 in
theorem rcmp_any (b : Nat) (x : Row) (k : Int) (w : World) (hz : b < w.heap.size) (hb : w.cell? ⟨b, 0, none⟩ = some (.func (.func 69) #[] #[])) : Calls Tryd.prog 83 #[.agg #[.int .i64 x.1, .int .i64 x.2.1, .int .i64 x.2.2], .int .i64 k, .pointer (some ⟨b, 0, none⟩)] w fun e w' => e = .returned (.int .i64 (cmpI x.1 k)) ∧ Below w.heap.size w w' := by
  have HK := hid rkey_any; have HC := hid compare_any
  have hz1 : b < w.heap.size + 1 := by omega
  go_enter Tryd.func83, Tryd.ntmps83
  go_wp2_with fail
  refine (HK.out _ _).mono ?_
  rintro e w2 ⟨rfl, hB⟩
  have B2 := hid ((show Below w.heap.size w (w.alloc (Obj.cells #[.int .i64 x.1, .int .i64 x.2.1, .int .i64 x.2.2] 87)) by (repeat (first | exact Below.refl _ _ | assumption | refine below_drewN ?_ _ | refine Below.drew ?_ | refine Below.alloc ?_ (by (try simp); (try omega)) _ | refine Below.setCell ?_ (by (try simp); (try omega)) _))).trans (hB.mono (by simp)))
  clear hB
  go_wp2_with fail
  refine (HC.out _ _ _).mono ?_
  rintro e w3 ⟨rfl, hB⟩
  have B3 := hid (B2.out.trans (hB.mono B2.out.size))
  clear hB
  go_wp2_with fail
  go_ret
  exact ⟨rfl, B3.out⟩
set_option maxRecDepth 100000 in
theorem mcmp_any (b : Nat) (a : Int) (A : Option Addr) (n c : Nat) (k : Int) (w : World) (hz : b < w.heap.size) (hb : w.cell? ⟨b, 0, none⟩ = some (.func (.func 71) #[] #[])) : Calls Tryd.prog 85 #[.agg #[.int .i64 a, .slice A n c], .int .i64 k, .pointer (some ⟨b, 0, none⟩)] w fun e w' => e = .returned (.int .i64 (cmpI a k)) ∧ Below w.heap.size w w' := by
  have HK := hid mkey_any; have HC := hid compare_any
  have hz1 : b < w.heap.size + 1 := by omega
  go_enter Tryd.func85, Tryd.ntmps85
  go_wp2_with fail
  refine (HK.out _ _ _ _ _).mono ?_
  rintro e w2 ⟨rfl, hB⟩
  have B2 := hid ((show Below w.heap.size w (w.alloc (Obj.cells #[.int .i64 a, .slice A n c] 105)) by (repeat (first | exact Below.refl _ _ | assumption | refine below_drewN ?_ _ | refine Below.drew ?_ | refine Below.alloc ?_ (by (try simp); (try omega)) _ | refine Below.setCell ?_ (by (try simp); (try omega)) _))).trans (hB.mono (by simp)))
  clear hB
  go_wp2_with fail
  refine (HC.out _ _ _).mono ?_
  rintro e w3 ⟨rfl, hB⟩
  have B3 := hid (B2.out.trans (hB.mono B2.out.size))
  clear hB
  go_wp2_with fail
  go_ret
  exact ⟨rfl, B3.out⟩
/-! ### The binary search -/
/-- What the binary search returns. -/
def BsR {T : Type} (key : T → Int) (l : List T) (q : Int) (e : Ending) : Prop :=
  ∃ (i : Nat) (ok : Bool), e = .returned (.tuple #[.int .i64 i, .bool ok]) ∧ ((ok = true ∧ ∃ hi : i < l.length, look key l q = some l[i]) ∨ (ok = false ∧ look key l q = none))
set_option maxRecDepth 100000 in
set_option maxHeartbeats 1000000 in
theorem bsr_any (gf : Nat) (lb : Array Value) (eg : ∀ args w, (callFunc gf args).run Tryd.prog w = .ok (.enter gf args) w) (A : Option Addr) (c : Nat) (l : List Row) (q : Int) (w : World) (hl : l.length ≤ 1000000) (ha : Asc kP l) (h : SlR w w.heap.size A l)
    (hp : ∀ (x : Row) (W : World), Below w.heap.size w W → Calls Tryd.prog gf (#[.agg #[.int .i64 x.1, .int .i64 x.2.1, .int .i64 x.2.2], .int .i64 q] ++ lb) W fun e w' => e = .returned (.int .i64 (cmpI x.1 q)) ∧ Below W.heap.size W w') :
    Calls Tryd.prog 82 #[.slice A l.length c, .int .i64 q, .func (.func gf) #[] lb] w fun e w' => BsR kP l q e ∧ Below w.heap.size w w' := by
  have HP := hid hp; have HA := hid ha; have H := hid h
  clear hp ha h
  go_enter Tryd.func82, Tryd.ntmps82
  go_wp2_with fail
  go_loopw [9, 10, 11] (fun iv jv _ wr => ∃ i j : Nat, i ≤ j ∧ j ≤ l.length ∧ iv = .int .i64 i ∧ jv = .int .i64 j ∧ (∀ k (hk : k < l.length), k < i → kP l[k] < q) ∧ (∀ k (hk : k < l.length), j ≤ k → q ≤ kP l[k]) ∧ Below w.heap.size w wr) (fun iv jv _ _ => (intOf jv).toNat - (intOf iv).toNat)
  case atStart => exact ⟨0, l.length, by omega, by omega, rfl, rfl, fun k _ h => by omega, fun k hk h => by omega, Below.refl _ _⟩
  case round =>
    obtain ⟨i, j, hij, hj, rfl, rfl, hlo, hhi, hB⟩ := hrel
    have HLO := hid hlo; have HHI := hid hhi; have HB := hid hB
    clear hlo hhi hB
    by_cases hlt : i < j
    case neg =>
      obtain rfl : i = j := by omega
      have HL := hid (look_bs (k := q) HA.out hj (fun k hk => HLO.out k (by omega) hk) (fun k hk hl => HHI.out k hl hk))
      by_cases hil : i < l.length
      case neg =>
        have hn := hid (show tRow l q = none by have := HL.out; rw [dif_neg hil] at this; exact this)
        have hilI : ¬ (i : Int) < l.length := by omega
        as_aux_lemma =>
          go_wp2_with fail
          go_ret2
          exact ⟨⟨i, false, rfl, .inr ⟨rfl, hn.out⟩⟩, HB.out⟩
      have hilI : (i : Int) < l.length := by omega
      have HL2 := hid (show tRow l q = if kP l[i] = q then some l[i] else none by have := HL.out; rw [dif_pos hil] at this; exact this)
      have HF := hid (fun (x : Row) (hx : x = l[i]) (ht : tRow l q = some x) => show ∃ hi : i < l.length, tRow l q = some l[i] from ⟨hil, by rw [← hx]; exact ht⟩)
      obtain ⟨b, off, rfl, hb, c1, c2, c3, -⟩ := H.out.row hil
      replace c1 := (bcell HB.out b _ hb).trans c1
      replace c2 := (bcell HB.out b _ hb).trans c2
      replace c3 := (bcell HB.out b _ hb).trans c3
      have hz : b < wr.heap.size := by have := HB.out.size; omega
      have HC := hid (HP.out l[i] wr HB.out)
      obtain ⟨x, hx⟩ : ∃ x, x = l[i] := ⟨_, rfl⟩
      have HX := hid hx
      rw [← hx] at c1 c2 c3 HC HL2
      clear hx HL
      obtain ⟨x0, x1, x2⟩ := x
      simp only [kP] at c1 c2 c3 HC HL2
      by_cases hq : x0 = q
      · have ht := hid (show tRow l q = some (x0, x1, x2) by rw [HL2.out, if_pos hq])
        have hc0 := hid (show cmpI x0 q = 0 by simp [cmpI, hq])
        rw [hc0.out] at HC
        clear HL2 hq
        as_aux_lemma =>
          go_wp2_with fail
          refine HC.out.mono ?_
          rintro e w9 ⟨rfl, hB9⟩
          have HB9 := hid (HB.out.trans (hB9.mono HB.out.size))
          clear hB9
          go_wp2_with fail
          go_ret2
          exact ⟨⟨i, true, rfl, .inl ⟨rfl, HF.out _ HX.out ht.out⟩⟩, HB9.out⟩
      · have ht := hid (show tRow l q = none by rw [HL2.out, if_neg hq])
        have hc0 : cmpI x0 q ≠ 0 := by unfold cmpI; split <;> (try split) <;> omega
        generalize cmpI x0 q = cv at *
        clear HL2 hq
        as_aux_lemma =>
          go_wp2_with fail
          refine HC.out.mono ?_
          rintro e w9 ⟨rfl, hB9⟩
          have HB9 := hid (HB.out.trans (hB9.mono HB.out.size))
          clear hB9
          have hc1 : (cv == 0) = false := by simpa using hc0
          clear hc0
          go_wp2_with fail
          go_ret2
          exact ⟨⟨i, false, rfl, .inr ⟨rfl, ht.out⟩⟩, HB9.out⟩
    have hltI : (i : Int) < j := by omega
    go_upto_region 5 with fail
    have hm : ((i : Int) + j) / 2 = ((i + j) / 2 : Nat) := by omega
    rw [hm]
    clear hm
    obtain ⟨m, hm, him, hmj⟩ : ∃ m, (i + j) / 2 = m ∧ i ≤ m ∧ m < j := ⟨_, rfl, by omega, by omega⟩
    rw [hm]
    clear hm
    have hml : m < l.length := by omega
    have hmlI : (m : Int) < l.length := by omega
    have HLT := hid (fun (hx : kP l[m] < q) => show ∀ k (hk : k < l.length), k < m + 1 → kP l[k] < q from fun k hk hkm => by
      have := HA.out.le_ (i := k) (j := m) (by omega) hml; omega)
    have HGE := hid (fun (hx : ¬ kP l[m] < q) => show ∀ k (hk : k < l.length), m ≤ k → q ≤ kP l[k] from fun k hk hkm => by
      have := HA.out.le_ (i := m) (j := k) hkm hk; omega)
    obtain ⟨b, off, rfl, hb, c1, c2, c3, -⟩ := H.out.row hml
    replace c1 := (bcell HB.out b _ hb).trans c1
    replace c2 := (bcell HB.out b _ hb).trans c2
    replace c3 := (bcell HB.out b _ hb).trans c3
    have hz : b < wr.heap.size := by have := HB.out.size; omega
    have HC := hid (HP.out l[m] wr HB.out)
    generalize l[m] = x at *
    obtain ⟨x0, x1, x2⟩ := x
    simp only [kP] at c1 c2 c3 HC HLT HGE
    by_cases hq : x0 < q
    · have hlo2 := hid (HLT.out hq)
      have hc0 : cmpI x0 q < 0 := by unfold cmpI; rw [if_pos hq]; omega
      generalize cmpI x0 q = cv at *
      clear HLT HGE
      as_aux_lemma =>
        go_wp2_with fail
        refine HC.out.mono ?_
        rintro e w9 ⟨rfl, hB9⟩
        have HB9 := hid (HB.out.trans (hB9.mono HB.out.size))
        clear hB9
        go_wp2_with fail
        go_roundw
        case rel => exact ⟨m + 1, j, by omega, hj, by go_num, rfl, hlo2.out, HHI.out, HB9.out⟩
        case measure => simp [intOf]; omega
    · have hhi2 := hid (HGE.out hq)
      have hc0 : ¬ cmpI x0 q < 0 := by unfold cmpI; rw [if_neg hq]; split <;> omega
      generalize cmpI x0 q = cv at *
      clear HLT HGE
      as_aux_lemma =>
        go_wp2_with fail
        refine HC.out.mono ?_
        rintro e w9 ⟨rfl, hB9⟩
        have HB9 := hid (HB.out.trans (hB9.mono HB.out.size))
        clear hB9
        go_wp2_with fail
        go_roundw
        case rel => exact ⟨i, m, him, by omega, rfl, rfl, HLO.out, hhi2.out, HB9.out⟩
        case measure => simp [intOf]; omega
/-! ### .. over moves -/
set_option maxRecDepth 100000 in
set_option maxHeartbeats 1000000 in
theorem bsm_any (gf : Nat) (lb : Array Value) (eg : ∀ args w, (callFunc gf args).run Tryd.prog w = .ok (.enter gf args) w) (A : Option Addr) (c : Nat) (l : List Mv) (q : Int) (w : World) (hl : l.length ≤ 1000000) (ha : Asc kM l) (h : SlR w w.heap.size A l)
    (hp : ∀ (x : Mv) (A : Option Addr) (n c : Nat) (W : World), Below w.heap.size w W → Calls Tryd.prog gf (#[.agg #[.int .i64 x.1, .slice A n c], .int .i64 q] ++ lb) W fun e w' => e = .returned (.int .i64 (cmpI x.1 q)) ∧ Below W.heap.size W w') :
    Calls Tryd.prog 84 #[.slice A l.length c, .int .i64 q, .func (.func gf) #[] lb] w fun e w' => BsR kM l q e ∧ Below w.heap.size w w' := by
  have HP := hid hp; have HA := hid ha; have H := hid h
  clear hp ha h
  go_enter Tryd.func84, Tryd.ntmps84
  go_wp2_with fail
  go_loopw [9, 10, 11] (fun iv jv _ wr => ∃ i j : Nat, i ≤ j ∧ j ≤ l.length ∧ iv = .int .i64 i ∧ jv = .int .i64 j ∧ (∀ k (hk : k < l.length), k < i → kM l[k] < q) ∧ (∀ k (hk : k < l.length), j ≤ k → q ≤ kM l[k]) ∧ Below w.heap.size w wr) (fun iv jv _ _ => (intOf jv).toNat - (intOf iv).toNat)
  case atStart => exact ⟨0, l.length, by omega, by omega, rfl, rfl, fun k _ h => by omega, fun k hk h => by omega, Below.refl _ _⟩
  case round =>
    obtain ⟨i, j, hij, hj, rfl, rfl, hlo, hhi, hB⟩ := hrel
    have HLO := hid hlo; have HHI := hid hhi; have HB := hid hB
    clear hlo hhi hB
    by_cases hlt : i < j
    case neg =>
      obtain rfl : i = j := by omega
      have HL := hid (look_bs (k := q) HA.out hj (fun k hk => HLO.out k (by omega) hk) (fun k hk hl => HHI.out k hl hk))
      by_cases hil : i < l.length
      case neg =>
        have hn := hid (show look kM l q = none by have := HL.out; rw [dif_neg hil] at this; exact this)
        have hilI : ¬ (i : Int) < l.length := by omega
        as_aux_lemma =>
          go_wp2_with fail
          go_ret2
          exact ⟨⟨i, false, rfl, .inr ⟨rfl, hn.out⟩⟩, HB.out⟩
      have hilI : (i : Int) < l.length := by omega
      have HL2 := hid (show look kM l q = if kM l[i] = q then some l[i] else none by have := HL.out; rw [dif_pos hil] at this; exact this)
      have HF := hid (fun (x : Mv) (hx : x = l[i]) (ht : look kM l q = some x) => show ∃ hi : i < l.length, look kM l q = some l[i] from ⟨hil, by rw [← hx]; exact ht⟩)
      obtain ⟨b, off, A', c', rfl, hb, c1, c2, -, -, -, -⟩ := H.out.mv hil
      replace c1 := (bcell HB.out b _ hb).trans c1
      replace c2 := (bcell HB.out b _ hb).trans c2
      have hz : b < wr.heap.size := by have := HB.out.size; omega
      have HC := hid (HP.out l[i] A' l[i].2.length c' wr HB.out)
      obtain ⟨x, hx⟩ : ∃ x, x = l[i] := ⟨_, rfl⟩
      have HX := hid hx
      rw [← hx] at c1 c2 HC HL2
      clear hx HL
      obtain ⟨x0, x1⟩ := x
      simp only [kM] at c1 c2 HC HL2
      by_cases hq : x0 = q
      · have ht := hid (show look kM l q = some (x0, x1) by rw [HL2.out, if_pos hq])
        have hc0 := hid (show cmpI x0 q = 0 by simp [cmpI, hq])
        rw [hc0.out] at HC
        clear HL2 hq
        as_aux_lemma =>
          go_wp2_with fail
          refine HC.out.mono ?_
          rintro e w9 ⟨rfl, hB9⟩
          have HB9 := hid (HB.out.trans (hB9.mono HB.out.size))
          clear hB9
          go_wp2_with fail
          go_ret2
          exact ⟨⟨i, true, rfl, .inl ⟨rfl, HF.out _ HX.out ht.out⟩⟩, HB9.out⟩
      · have ht := hid (show look kM l q = none by rw [HL2.out, if_neg hq])
        have hc0 : cmpI x0 q ≠ 0 := by unfold cmpI; split <;> (try split) <;> omega
        generalize cmpI x0 q = cv at *
        clear HL2 hq
        as_aux_lemma =>
          go_wp2_with fail
          refine HC.out.mono ?_
          rintro e w9 ⟨rfl, hB9⟩
          have HB9 := hid (HB.out.trans (hB9.mono HB.out.size))
          clear hB9
          have hc1 : (cv == 0) = false := by simpa using hc0
          clear hc0
          go_wp2_with fail
          go_ret2
          exact ⟨⟨i, false, rfl, .inr ⟨rfl, ht.out⟩⟩, HB9.out⟩
    have hltI : (i : Int) < j := by omega
    go_upto_region 5 with fail
    have hm : ((i : Int) + j) / 2 = ((i + j) / 2 : Nat) := by omega
    rw [hm]
    clear hm
    obtain ⟨m, hm, him, hmj⟩ : ∃ m, (i + j) / 2 = m ∧ i ≤ m ∧ m < j := ⟨_, rfl, by omega, by omega⟩
    rw [hm]
    clear hm
    have hml : m < l.length := by omega
    have hmlI : (m : Int) < l.length := by omega
    have HLT := hid (fun (hx : kM l[m] < q) => show ∀ k (hk : k < l.length), k < m + 1 → kM l[k] < q from fun k hk hkm => by
      have := HA.out.le_ (i := k) (j := m) (by omega) hml; omega)
    have HGE := hid (fun (hx : ¬ kM l[m] < q) => show ∀ k (hk : k < l.length), m ≤ k → q ≤ kM l[k] from fun k hk hkm => by
      have := HA.out.le_ (i := m) (j := k) hkm hk; omega)
    obtain ⟨b, off, A', c', rfl, hb, c1, c2, -, -, -, -⟩ := H.out.mv hml
    replace c1 := (bcell HB.out b _ hb).trans c1
    replace c2 := (bcell HB.out b _ hb).trans c2
    have hz : b < wr.heap.size := by have := HB.out.size; omega
    have HC := hid (HP.out l[m] A' l[m].2.length c' wr HB.out)
    generalize l[m] = x at *
    obtain ⟨x0, x1⟩ := x
    simp only [kM] at c1 c2 HC HLT HGE
    by_cases hq : x0 < q
    · have hlo2 := hid (HLT.out hq)
      have hc0 : cmpI x0 q < 0 := by unfold cmpI; rw [if_pos hq]; omega
      generalize cmpI x0 q = cv at *
      clear HLT HGE
      as_aux_lemma =>
        go_wp2_with fail
        refine HC.out.mono ?_
        rintro e w9 ⟨rfl, hB9⟩
        have HB9 := hid (HB.out.trans (hB9.mono HB.out.size))
        clear hB9
        go_wp2_with fail
        go_roundw
        case rel => exact ⟨m + 1, j, by omega, hj, by go_num, rfl, hlo2.out, HHI.out, HB9.out⟩
        case measure => simp [intOf]; omega
    · have hhi2 := hid (HGE.out hq)
      have hc0 : ¬ cmpI x0 q < 0 := by unfold cmpI; rw [if_neg hq]; split <;> omega
      generalize cmpI x0 q = cv at *
      clear HLT HGE
      as_aux_lemma =>
        go_wp2_with fail
        refine HC.out.mono ?_
        rintro e w9 ⟨rfl, hB9⟩
        have HB9 := hid (HB.out.trans (hB9.mono HB.out.size))
        clear hB9
        go_wp2_with fail
        go_roundw
        case rel => exact ⟨i, m, him, by omega, rfl, rfl, HLO.out, hhi2.out, HB9.out⟩
        case measure => simp [intOf]; omega
end Go.Proofs.YtfpehakllnkaeaaDoor
