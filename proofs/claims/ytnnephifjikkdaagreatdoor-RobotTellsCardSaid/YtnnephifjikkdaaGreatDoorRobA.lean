
/- Robots: a slice copied. -/
import Derived.Test.YtnnephifjikkdaaGreatDoorFloG
import Derived.Test.YtnnephifjikkdaaGreatDoorMem
set_option linter.unusedSimpArgs false
set_option linter.unusedVariables false
namespace Go.Proofs.YtnnephifjikkdaaGreatDoor
open Go.RowKit Go.IntWalk

theorem slr_none {w : World} {B : Nat} {l : List Int} (h : SlR w B none l) : l = [] := by
  cases l with
  | nil => rfl
  | cons x l => obtain ⟨b, off, hA, _⟩ := h.int (k := 0) (by simp); cases hA
/-- The slice lies in blocks from B on. -/
def Fresh (B : Nat) (A : Option Addr) : Prop := ∀ a, A = some a → B ≤ a.block
theorem Fresh.mono {B B' : Nat} {A : Option Addr} (h : Fresh B A) (hb : B' ≤ B) : Fresh B' A := fun a ha => Nat.le_trans hb (h a ha)
theorem OwnI.fresh_at {w : World} {base n c : Nat} {A : Option Addr} {l : List Int} (h : OwnI w base (.slice A n c) l) : Fresh base A := by
  rcases h.2 with ⟨hv, _⟩ | ⟨g, cap, cur, hv, hb, _⟩
  · injection hv with h1 h2 h3
    subst h1
    intro a ha; cases ha
  · injection hv with h1 h2 h3
    subst h1
    intro a ha
    injection ha with ha
    subst ha
    exact hb
theorem SlR.far {w : World} {B : Nat} {A : Option Addr} {l : List Int} (h : SlR w B A l) {p : Addr} (hp : ∀ a, A = some a → a.block ≠ p.block) (u : Value) : SlR (w.setCell p u) B A l := by
  intro k x hx
  obtain ⟨b, off, es, hA, hb, hs, hc, hr⟩ := h k x hx
  refine ⟨b, off, es, hA, hb, hs, fun j u' hu => ?_, hr⟩
  have hne : b ≠ p.block := hp _ hA
  rw [cell_kept (Below.heap_setCell w p u b hne)]
  exact hc j u' hu
/-- A result: a slice that holds the list. -/
def NewInts (w : World) (l : List Int) (v : Value) (w' : World) : Prop :=
  ∃ A c, v = .slice A l.length c ∧ l.length ≤ c ∧ c ≤ maxLen ∧ SlR w' w'.heap.size A l ∧ Fresh w.heap.size A ∧ Below w.heap.size w w'
def RetInts (w : World) (l : List Int) (e : Ending) (w' : World) : Prop := ∃ v, e = .returned v ∧ NewInts w l v w'

set_option maxRecDepth 100000 in
set_option maxHeartbeats 1000000 in
theorem sclone_own (A : Option Addr) (c : Nat) (l : List Int) (w : World) (hl : l.length ≤ 65536) (hs : SlR w w.heap.size A l) :
    Calls Tryz.prog 78 #[.slice A l.length c] w fun e w' => ∃ v, e = .returned v ∧ OwnI w' w.heap.size v l ∧ Below w.heap.size w w' := by
  have hn1 := fun W => Lib.run_eql_slice_nil (P := Tryz.prog) W 22 3 A l.length c 0 0 Tryz.underlying22
  cases A with
  | none =>
    have hl0 := slr_none hs
    subst hl0
    simp only [Option.isNone_none, List.length_nil] at hn1
    go_enter Tryz.func78, Tryz.ntmps78
    go_wp2
    go_ret
    exact ⟨_, rfl, OwnI.nil _ _, Below.refl _ _⟩
  | some ad =>
    simp only [Option.isNone_some] at hn1
    have hints := hid hs.ints
    have hcell : Hid (∀ (j : Nat) (u : Value), (l.map (Value.int .i64))[j]? = some u → w.cell? (ad.add j) = some u) := by
      intro j u hu
      have hpos : 0 < l.length := by
        cases l with
        | nil => simp at hu
        | cons x l => simp
      obtain ⟨b, off, hA, _, hc⟩ := hs.int_cells hpos
      injection hA with hA
      rw [hA]; exact hc j u hu
    have hbl : Hid (∀ (j : Nat) (u : Value), (l.map (Value.int .i64))[j]? = some u → (w.alloc (Obj.cells #[] 3)).cell? (ad.add j) = some u) := fun j u hu => by
      have := hcell.out j u hu
      rw [← this]
      exact World.cell?_alloc_lt w _ _ (by have := cell_lt this; exact this.1)
    have hown : Hid (OwnI (w.alloc (Obj.cells #[] 3)) w.heap.size (.slice (some ⟨w.heap.size, 0, none⟩) 0 0) []) := OwnI.fresh (l := []) (Blk.new w _ _) (Nat.le_refl _) (by simp)
    go_enter Tryz.func78, Tryz.ntmps78
    go_wp2_with (at_builtin; refine wp_appI _ rfl (.tmp 5) (.tmp 6) rfl w.heap.size (.slice (some ⟨w.heap.size, 0, none⟩) 0 0) [] rfl hown.out ad c l rfl hbl.out (by simp; omega) (by simp) ?_; intro v1 w1 ho1 hg1 hat1)
    clear hn1
    go_wp2
    go_ret
    refine ⟨_, rfl, by simpa using ho1, ?_⟩
    refine ((Below.refl _ w).alloc (Nat.le_refl _) _).grown hg1 (by simp) ?_
    intro k hk
    have hk' : some w.heap.size = some k := hk
    injection hk' with e
    omega

theorem sclone_any (A : Option Addr) (c : Nat) (l : List Int) (w : World) (hl : l.length ≤ 65536) (hs : SlR w w.heap.size A l) :
    Calls Tryz.prog 78 #[.slice A l.length c] w (RetInts w l) := by
  refine (sclone_own A c l w hl hs).mono ?_
  rintro e w' ⟨v, rfl, ho, hB⟩
  obtain ⟨A', c', rfl, h1, h2, h3⟩ := ho.slr hs.ints
  exact ⟨_, rfl, A', c', rfl, h1, h2, h3, ho.fresh_at, hB⟩

/-! ### A list of acts looked through -/
def badB (x : Int) : Bool := !decide (0 ≤ x ∧ x < 10)
def knownL (l : List Int) : Bool := !l.any badB
theorem knownL_iff {l : List Int} : knownL l = true ↔ ∀ x ∈ l, 0 ≤ x ∧ x < 10 := by
  simp [knownL, badB]
set_option maxRecDepth 100000 in
set_option maxHeartbeats 400000 in
theorem bad_any (x : Int) (w : World) : Calls Tryz.prog 99 #[.int .i64 x] w fun e w' => e = .returned (.bool (badB x)) ∧ w = w' := by
  by_cases h : 0 ≤ x
  · by_cases h2 : x < 10
    · have hr := hid (show badB x = false by simp [badB, h, h2])
      go_enter Tryz.func99, Tryz.ntmps99
      go_wp2
      go_ret
      exact ⟨ret_bool (by rw [hr.out]; (try simp); try omega), rfl⟩
    · have hr := hid (show badB x = true by simp [badB]; omega)
      go_enter Tryz.func99, Tryz.ntmps99
      go_wp2
      go_ret
      exact ⟨ret_bool (by rw [hr.out]; (try simp); try omega), rfl⟩
  · have hr := hid (show badB x = true by simp [badB, h])
    go_enter Tryz.func99, Tryz.ntmps99
    go_wp2
    go_ret
    exact ⟨ret_bool (by rw [hr.out]; (try simp); try omega), rfl⟩
/-- The first index, from k on, at which the test holds; -1. -/
def firstBad (p : Int → Bool) : List Int → Nat → Int
  | [], _ => -1
  | x :: l, k => if p x then k else firstBad p l (k+1)
theorem firstBad_step {p : Int → Bool} {l : List Int} {k : Nat} (h : k < l.length) : firstBad p (l.drop k) k = if p l[k] then (k:Int) else firstBad p (l.drop (k+1)) (k+1) := by
  rw [List.drop_eq_getElem_cons h]; rfl
theorem firstBad_nonneg (p : Int → Bool) : ∀ (l : List Int) (k : Nat), decide (0 ≤ firstBad p l k) = l.any p
  | [], _ => rfl
  | x :: l, k => by
    have ih := firstBad_nonneg p l (k+1)
    by_cases h : p x = true
    · have e : firstBad p (x :: l) k = k := by rw [firstBad, if_pos h]
      rw [e, List.any_cons, h]; simp
    · have e : firstBad p (x :: l) k = firstBad p l (k+1) := by rw [firstBad, if_neg h]
      simp only [Bool.not_eq_true] at h
      rw [e, List.any_cons, h, ih]; simp
set_option maxRecDepth 100000 in
set_option maxHeartbeats 1000000 in
theorem index_any (f : Nat) (p : Int → Bool) (hf : ∀ (x : Int) (w : World), Calls Tryz.prog f #[.int .i64 x] w fun e w' => e = .returned (.bool (p x)) ∧ w = w') (A : Option Addr) (c : Nat) (l : List Int) (w : World) (hl : l.length ≤ maxLen) (hs : SlR w w.heap.size A l)
    (ef : ∀ (x : Int) (W : World), (callFunc f #[.int .i64 x]).run Tryz.prog W = .ok (.enter f #[.int .i64 x]) W) :
    Calls Tryz.prog 115 #[.slice A l.length c, .func (.func f) #[] #[]] w fun e w' => e = .returned (.int .i64 (firstBad p l 0)) ∧ Below w.heap.size w w' := by
  have Hf := hid hf
  clear hf
  unfold maxLen at hl
  go_enter Tryz.func115, Tryz.ntmps115
  go_wp2_with fail
  have R0 : Hid (firstBad p l 0 = firstBad p (l.drop 0) 0) := by simp [Hid]
  go_loop [8] (fun i => ∃ k : Nat, k ≤ l.length ∧ i = .int .i64 k ∧ Hid (firstBad p l 0 = firstBad p (l.drop k) k)) (fun i => l.length - (intOf i).toNat)
  case atStart => exact ⟨0, by omega, rfl, R0⟩
  case round =>
    clear R0
    obtain ⟨k, hk, rfl, hr⟩ := hrel
    by_cases hlt : k < l.length
    · obtain ⟨b, off, rfl, hb, g1, _⟩ := hs.int hlt
      have hst := hid (firstBad_step (p := p) hlt)
      cases hp : p l[k] with
      | true =>
        have he : Hid (firstBad p (l.drop k) k = k) := by rw [Hid, hst.out, if_pos hp]
        have Hp := hid hp
        clear hp
        go_wp2_with fail
        refine (Hf.out _ _).mono ?_
        rintro e w' ⟨rfl, rfl⟩
        rw [Hp.out]
        go_wp2
        go_ret
        exact ⟨ret_int (by rw [hr.out, he.out]), Below.refl _ _⟩
      | false =>
        have he : Hid (firstBad p (l.drop k) k = firstBad p (l.drop (k+1)) (k+1)) := by rw [Hid, hst.out, if_neg (by simp [hp])]
        have Hp := hid hp
        clear hp
        go_wp2_with fail
        refine (Hf.out _ _).mono ?_
        rintro e w' ⟨rfl, rfl⟩
        rw [Hp.out]
        go_wp2
        go_round
        case rel => exact ⟨k+1, by omega, by go_num, hr.out.trans he.out⟩
        case measure => simp [intOf]; omega
    · have he := hid (show firstBad p (l.drop k) k = -1 by rw [List.drop_eq_nil_of_le (by omega)]; rfl)
      go_wp2
      go_ret
      exact ⟨ret_int (by rw [hr.out, he.out]), Below.refl _ _⟩

set_option maxRecDepth 100000 in
set_option maxHeartbeats 1000000 in
theorem contains_any (f : Nat) (p : Int → Bool) (hf : ∀ (x : Int) (w : World), Calls Tryz.prog f #[.int .i64 x] w fun e w' => e = .returned (.bool (p x)) ∧ w = w') (A : Option Addr) (c : Nat) (l : List Int) (w : World) (hl : l.length ≤ maxLen) (hs : SlR w w.heap.size A l)
    (ef : ∀ (x : Int) (W : World), (callFunc f #[.int .i64 x]).run Tryz.prog W = .ok (.enter f #[.int .i64 x]) W) :
    Calls Tryz.prog 98 #[.slice A l.length c, .func (.func f) #[] #[]] w fun e w' => e = .returned (.bool (l.any p)) ∧ Below w.heap.size w w' := by
  have hr := hid (firstBad_nonneg p l 0)
  have Hf := hid hf
  have Ef := hid ef
  clear hf ef
  go_enter Tryz.func98, Tryz.ntmps98
  go_wp2_with fail
  refine (index_any f p Hf.out A c l _ hl hs Ef.out).mono ?_
  rintro e w' ⟨rfl, hB⟩
  go_wp2
  go_ret
  exact ⟨ret_bool hr.out, hB⟩
set_option maxRecDepth 100000 in
set_option maxHeartbeats 1000000 in
theorem known_any (A : Option Addr) (c : Nat) (l : List Int) (w : World) (hl : l.length ≤ maxLen) (hs : SlR w w.heap.size A l) :
    Calls Tryz.prog 76 #[.slice A l.length c] w fun e w' => e = .returned (.bool (knownL l)) ∧ Below w.heap.size w w' := by
  go_enter Tryz.func76, Tryz.ntmps76
  go_wp2_with fail
  refine (contains_any 99 badB bad_any A c l _ hl hs ?_).mono ?_
  · intro x W
    simp [go_sem]
  · rintro e w' ⟨rfl, hB⟩
    go_wp2
    go_ret
    exact ⟨rfl, hB⟩
end Go.Proofs.YtnnephifjikkdaaGreatDoor
