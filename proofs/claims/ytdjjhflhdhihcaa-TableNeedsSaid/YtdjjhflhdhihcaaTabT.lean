
/- Table: the laws' own example, fair and small. -/
import Derived.Test.YtdjjhflhdhihcaaTabN
import Derived.Test.YtdjjhflhdhihcaaFlat
import Derived.Test.YtdjjhflhdhihcaaTabRb
import Derived.Test.YtdjjhflhdhihcaaTabS
import Derived.Test.YtdjjhflhdhihcaaGamF
import Derived.Test.YtdjjhflhdhihcaaGamN
import Derived.Test.YtdjjhflhdhihcaaGamQo
set_option linter.unusedSimpArgs false
set_option linter.unusedVariables false
namespace Go.Proofs.Ytdjjhflhdhihcaa
open Go.RowKit Go.IntWalk Go.Shelf

def exG : Gm := ([false, false, true], [[(5, [1, 2])], [(4, [2])], []])
theorem i64s (n : Int) (h : -100 ≤ n ∧ n ≤ 100) : I64 n := ⟨by omega, by omega⟩
theorem flat_ints : ∀ l : List Int, (l.map (fun x => [Value.int .i64 x])).flatten = l.map (Value.int .i64)
  | [] => rfl
  | a :: l => by rw [List.map_cons, List.flatten_cons, flat_ints l]; rfl
theorem slr_ints {w : World} {g : Nat} {l : List Int} (hb : Blk w g 3 (l.map (Value.int .i64)).toArray) (hi : ∀ x ∈ l, I64 x) : SlR w w.heap.size (some ⟨g, 0, none⟩) l := by
  refine slr_flat (t := 3) (l.map (fun x => [Value.int .i64 x])) (by rw [flat_ints]; exact hb) (by simp) (fun c hc => by obtain ⟨x, _, rfl⟩ := List.mem_map.1 hc; rfl) (fun k hk => ?_)
  rw [List.getElem_map]; exact ⟨rfl, hi _ (List.getElem_mem hk)⟩
theorem slr_mv1 {w : World} {g : Nat} {a : Int} {A : Option Addr} {c : Nat} {tos : List Int} (hb : Blk w g 49 #[.int .i64 a, .slice A tos.length c]) (ha : I64 a) (h1 : tos.length ≤ c) (h2 : c ≤ maxLen) (hs : SlR w w.heap.size A tos) : SlR w w.heap.size (some ⟨g, 0, none⟩) [((a, tos) : Mv)] := by
  refine slr_flat [[.int .i64 a, .slice A tos.length c]] hb rfl (fun c hc => by rw [List.mem_singleton.1 hc]; rfl) (fun k hk => ?_)
  have : k = 0 := by simpa using hk
  subst this
  exact ⟨[.int .i64 a], [.slice A tos.length c], rfl, rfl, rfl, ⟨rfl, ha⟩, A, c, rfl, h1, h2, hs⟩
set_option maxRecDepth 100000 in
set_option maxHeartbeats 1000000 in
theorem example_any (w : World) : Calls Try.prog 14 #[] w fun e w' => ∃ Ag Am, e = .returned (.agg #[.slice Ag 3 3, .slice Am 3 3]) ∧ GmR w' w'.heap.size Ag Am exG ∧ Below w.heap.size w w' := by
  obtain ⟨w7, hw7⟩ : ∃ w7, w7 = (((((((w.alloc (Obj.cells #[.slice (some ⟨w.heap.size + 1, 0, none⟩) 3 3, .slice (some ⟨w.heap.size + 1 + 1 + 1 + 1 + 1 + 1, 0, none⟩) 3 3] 25)).alloc (Obj.cells #[.bool false, .bool false, .bool true] 4)).alloc (Obj.cells #[.int .i64 1, .int .i64 2] 3)).alloc
    (Obj.cells #[.int .i64 5, .slice (some ⟨w.heap.size + 1 + 1, 0, none⟩) 2 2] 49)).alloc (Obj.cells #[.int .i64 2] 3)).alloc (Obj.cells #[.int .i64 4, .slice (some ⟨w.heap.size + 1 + 1 + 1 + 1, 0, none⟩) 1 1] 49)).alloc
    (Obj.cells #[.slice (some ⟨w.heap.size + 1 + 1 + 1, 0, none⟩) 1 1, .slice (some ⟨w.heap.size + 1 + 1 + 1 + 1 + 1, 0, none⟩) 1 1, .slice none 0 0] 60)) := ⟨_, rfl⟩
  have B7 := hid (show Below w.heap.size w w7 by rw [hw7]; (repeat (first | exact Below.refl _ _ | assumption | refine below_drewN ?_ _ | refine Below.drew ?_ | refine Below.alloc ?_ (by (try simp); (try omega)) _ | refine Below.setCell ?_ (by (try simp); (try omega)) _)))
  have X0 := hid (show Blk w7 w.heap.size 25 #[.slice (some ⟨w.heap.size + 1, 0, none⟩) 3 3, .slice (some ⟨w.heap.size + 1 + 1 + 1 + 1 + 1 + 1, 0, none⟩) 3 3] by rw [hw7]; exact ((((((Blk.new w _ _).alloc _).alloc _).alloc _).alloc _).alloc _).alloc _)
  have X1 := show Blk w7 (w.heap.size + 1) 4 #[.bool false, .bool false, .bool true] by rw [hw7]; exact (((((Blk.new_at (by simp)).alloc _).alloc _).alloc _).alloc _).alloc _
  have X2 := show Blk w7 (w.heap.size + 1 + 1) 3 #[.int .i64 1, .int .i64 2] by rw [hw7]; exact ((((Blk.new_at (by simp)).alloc _).alloc _).alloc _).alloc _
  have X3 := show Blk w7 (w.heap.size + 1 + 1 + 1) 49 #[.int .i64 5, .slice (some ⟨w.heap.size + 1 + 1, 0, none⟩) 2 2] by rw [hw7]; exact (((Blk.new_at (by simp)).alloc _).alloc _).alloc _
  have X4 := show Blk w7 (w.heap.size + 1 + 1 + 1 + 1) 3 #[.int .i64 2] by rw [hw7]; exact ((Blk.new_at (by simp)).alloc _).alloc _
  have X5 := show Blk w7 (w.heap.size + 1 + 1 + 1 + 1 + 1) 49 #[.int .i64 4, .slice (some ⟨w.heap.size + 1 + 1 + 1 + 1, 0, none⟩) 1 1] by rw [hw7]; exact (Blk.new_at (by simp)).alloc _
  have X6 := show Blk w7 (w.heap.size + 1 + 1 + 1 + 1 + 1 + 1) 60 #[.slice (some ⟨w.heap.size + 1 + 1 + 1, 0, none⟩) 1 1, .slice (some ⟨w.heap.size + 1 + 1 + 1 + 1 + 1, 0, none⟩) 1 1, .slice none 0 0] by rw [hw7]; exact Blk.new_at (by simp)
  have hm : (3 : Nat) ≤ maxLen ∧ (2 : Nat) ≤ maxLen ∧ (1 : Nat) ≤ maxLen ∧ (0 : Nat) ≤ maxLen := by unfold maxLen; omega
  have s1 : SlR w7 w7.heap.size (some ⟨w.heap.size + 1, 0, none⟩) [false, false, true] := slr_flat [[.bool false], [.bool false], [.bool true]] X1 rfl (fun c hc => by simp at hc; rcases hc with rfl | rfl <;> rfl) (fun k hk => by
    match k, hk with
    | 0, _ => rfl
    | 1, _ => rfl
    | 2, _ => rfl)
  have s2 : SlR w7 w7.heap.size (some ⟨w.heap.size + 1 + 1, 0, none⟩) ([1, 2] : List Int) := slr_ints X2 (fun x hx => by simp at hx; rcases hx with rfl | rfl <;> exact i64s _ (by omega))
  have s4 : SlR w7 w7.heap.size (some ⟨w.heap.size + 1 + 1 + 1 + 1, 0, none⟩) ([2] : List Int) := slr_ints X4 (fun x hx => by simp at hx; rw [hx]; exact i64s _ (by omega))
  have s3 := slr_mv1 (tos := [1, 2]) X3 (i64s 5 (by omega)) (Nat.le_refl _) hm.2.1 s2
  have s5 := slr_mv1 (tos := [2]) X5 (i64s 4 (by omega)) (Nat.le_refl _) hm.2.2.1 s4
  have s6 : SlR w7 w7.heap.size (some ⟨w.heap.size + 1 + 1 + 1 + 1 + 1 + 1, 0, none⟩) exG.2 := slr_flat [[.slice (some ⟨w.heap.size + 1 + 1 + 1, 0, none⟩) 1 1], [.slice (some ⟨w.heap.size + 1 + 1 + 1 + 1 + 1, 0, none⟩) 1 1], [.slice none 0 0]] X6 rfl (fun c hc => by simp at hc; rcases hc with rfl | rfl | rfl <;> rfl) (fun k hk => by
    match k, hk with
    | 0, _ => exact ⟨_, 1, rfl, Nat.le_refl _, hm.2.2.1, s3⟩
    | 1, _ => exact ⟨_, 1, rfl, Nat.le_refl _, hm.2.2.1, s5⟩
    | 2, _ => exact ⟨_, 0, rfl, Nat.le_refl _, hm.2.2.2, SlR.nil⟩)
  have HG := hid (show GmR w7 w7.heap.size (some ⟨w.heap.size + 1, 0, none⟩) (some ⟨w.heap.size + 1 + 1 + 1 + 1 + 1 + 1, 0, none⟩) exG from ⟨s1, s6, hm.1, hm.1⟩)
  clear X1 X2 X3 X4 X5 X6 s1 s2 s3 s4 s5 s6 hm
  go_enter Try.func14, Try.ntmps14
  go_wp2_with fail
  rw [← hw7]
  clear hw7
  refine bodyPost_ret (results_cell_row Try.results14 _ _ w.heap.size 25 _ (0, 0) _ rfl X0.out Try.underlying25 rfl (by kernel_rfl)) rfl ?_
  exact ⟨_, _, rfl, HG.out, B7.out⟩
theorem exG_right : rightL exG = true := by decide
theorem exG_ok : GmOK exG := by
  refine ⟨rfl, by decide, ?_, ?_⟩
  · intro l hl; simp [exG] at hl; rcases hl with rfl | rfl | rfl <;> simp
  · intro l hl m hm
    simp [exG] at hl
    rcases hl with rfl | rfl | rfl
    · simp at hm; subst hm; simp [exG]
    · simp at hm; subst hm; simp [exG]
    · simp at hm
/-! ### The example's tables -/
def exOne : List Row := [(0, 5, 2), (1, 4, 1), (2, -1, 0)]
def exTwo : List Row := [(0, 5, 1), (1, 4, 1), (2, -1, 0)]
def exThree : List Row := [(0, 5, 2), (2, -1, 0)]
theorem exOne_asc : Asc kP exOne := by simp [Asc, exOne, kP]
theorem exTwo_asc : Asc kP exTwo := by simp [Asc, exTwo, kP]
theorem exThree_asc : Asc kP exThree := by simp [Asc, exThree, kP]
theorem exOne_chk {k c : Int} (h : ChkR exG exOne k c) : k = -1 ∧ c = 0 := h.all exOne_asc (by decide)
theorem exTwo_chk {k c : Int} (h : ChkR exG exTwo k c) : k = 0 ∧ c = 25 := by
  have := h.bad exTwo_asc (i := 0) (by decide) (by decide)
  omega
theorem exThree_chk {k c : Int} (h : ChkR exG exThree k c) : k = 0 ∧ c = 25 := by
  have := h.bad exThree_asc (i := 0) (by decide) (by decide)
  omega
theorem exOne_fol : folL exG exOne 0 [0, 7] = [0, 1, 2] := by decide
/-- Two ascending lists with the same elements. -/
theorem asc_ext {T : Type} {key : T → Int} : ∀ {a b : List T}, Asc key a → Asc key b → (∀ x, x ∈ a ↔ x ∈ b) → a = b
  | [], [], _, _, _ => rfl
  | [], y :: b, _, _, h => absurd ((h y).2 (List.mem_cons_self ..)) (by simp)
  | x :: a, [], _, _, h => absurd ((h x).1 (List.mem_cons_self ..)) (by simp)
  | x :: a, y :: b, ha, hb, h => by
    obtain ⟨ha1, ha2⟩ := List.pairwise_cons.1 ha
    obtain ⟨hb1, hb2⟩ := List.pairwise_cons.1 hb
    have e : x = y := by
      rcases List.mem_cons.1 ((h x).1 (List.mem_cons_self ..)) with e | hx
      · exact e
      · rcases List.mem_cons.1 ((h y).2 (List.mem_cons_self ..)) with e | hy
        · exact e.symm
        · have := hb1 x hx; have := ha1 y hy; omega
    subst e
    congr 1
    refine asc_ext ha2 hb2 fun z => ⟨fun hz => ?_, fun hz => ?_⟩
    · rcases List.mem_cons.1 ((h z).1 (List.mem_cons_of_mem _ hz)) with rfl | hz2
      · have := ha1 z hz; omega
      · exact hz2
    · rcases List.mem_cons.1 ((h z).2 (List.mem_cons_of_mem _ hz)) with rfl | hz2
      · have := hb1 z hz; omega
      · exact hz2
theorem ex_lead {x : Row} (h : x ∈ exOne) {t : Int} (hl : leads exG x t) : (x = (0, 5, 2) ∧ (t = 1 ∨ t = 2)) ∨ (x = (1, 4, 1) ∧ t = 2) := by
  obtain ⟨m, hm, ht⟩ := hl
  simp only [exOne, List.mem_cons, List.not_mem_nil, or_false] at h
  rcases h with rfl | rfl | rfl
  · have e : tMove exG 0 5 = some (5, [1, 2]) := by decide
    simp only at hm
    rw [e] at hm
    injection hm with hm
    subst hm
    simp at ht
    exact .inl ⟨rfl, ht⟩
  · have e : tMove exG 1 4 = some (4, [2]) := by decide
    simp only at hm
    rw [e] at hm
    injection hm with hm
    subst hm
    simp at ht
    exact .inr ⟨rfl, ht⟩
  · have e : tMove exG 2 (-1) = none := by decide
    simp only at hm
    rw [e] at hm
    cases hm
theorem exOne_needs {l : List Row} (h : NdR exG exOne 1 l) : l = [(1, 4, 1), (2, -1, 0)] := by
  have hin : ∀ x ∈ l, x ∈ exOne := fun x hx => (look_mem (h.mem x hx)).1
  have h1 : ((1 : Int), (4 : Int), (1 : Int)) ∈ l := by
    rcases h.st with h1 | ⟨y, hy, e⟩
    · exact absurd h1 (by decide)
    · have := hin y hy
      simp only [exOne, List.mem_cons, List.not_mem_nil, or_false] at this
      rcases this with rfl | rfl | rfl
      · cases e
      · exact hy
      · cases e
  have h2 : ((2 : Int), (-1 : Int), (0 : Int)) ∈ l := by
    rcases h.cl _ h1 2 ⟨(4, [2]), by decide, by decide⟩ with h2 | ⟨y, hy, e⟩
    · exact absurd h2 (by decide)
    · have := hin y hy
      simp only [exOne, List.mem_cons, List.not_mem_nil, or_false] at this
      rcases this with rfl | rfl | rfl
      · cases e
      · cases e
      · exact hy
  have h0 : ((0 : Int), (5 : Int), (2 : Int)) ∉ l := by
    intro hx
    rcases h.re _ hx with e | ⟨y, hy, hl⟩
    · cases e
    · rcases ex_lead (hin y hy) hl with ⟨_, e | e⟩ | ⟨_, e⟩ <;> cases e
  refine asc_ext h.asc (by simp [Asc, kP]) fun x => ⟨fun hx => ?_, fun hx => ?_⟩
  · have := hin x hx
    simp only [exOne, List.mem_cons, List.not_mem_nil, or_false] at this
    rcases this with rfl | rfl | rfl
    · exact absurd hx h0
    · simp
    · simp
  · simp only [List.mem_cons, List.not_mem_nil, or_false] at hx
    rcases hx with rfl | rfl
    · exact h1
    · exact h2
/-! ### fair -/
def fairL (g : Gm) (rows : List Row) : Bool := fewL g 40 && rightL g && decide (rows.length ≤ 60)
theorem fair_parts {g : Gm} {rows : List Row} (h : fairL g rows = true) : rightL g = true ∧ GmOK g ∧ rows.length ≤ 60 := by
  simp only [fairL, Bool.and_eq_true, decide_eq_true_eq] at h
  exact ⟨h.1.2, ok_of h.1.1 h.1.2 (by omega), h.2⟩
set_option maxRecDepth 100000 in
set_option maxHeartbeats 1000000 in
theorem fair_any (Ag Am B : Option Addr) (cg cm c : Nat) (g : Gm) (rows : List Row) (w : World) (h : GmR w w.heap.size Ag Am g) (hl : rows.length ≤ maxLen) :
    Calls Try.prog 7 #[.agg #[.slice Ag g.1.length cg, .slice Am g.2.length cm], .slice B rows.length c] w fun e w' => e = .returned (.bool (fairL g rows)) ∧ Below w.heap.size w w' := by
  unfold maxLen at hl
  obtain ⟨w1, hw1⟩ : ∃ w1, w1 = w.alloc (Obj.cells #[.slice Ag g.1.length cg, .slice Am g.2.length cm] 25) := ⟨_, rfl⟩
  have B1 := hid (show Below w.heap.size w w1 by rw [hw1]; (repeat (first | exact Below.refl _ _ | assumption | refine below_drewN ?_ _ | refine Below.drew ?_ | refine Below.alloc ?_ (by (try simp); (try omega)) _ | refine Below.setCell ?_ (by (try simp); (try omega)) _)))
  have X1 := hid (show Blk w1 w.heap.size 25 #[.slice Ag g.1.length cg, .slice Am g.2.length cm] by rw [hw1]; exact Blk.new w _ _)
  have HF := hid (few_any Ag Am cg cm g 40 (by omega) w1 (h.to B1.out))
  have HR := hid (fun (W : World) (hW : Below w.heap.size w W) => rright_any Ag Am cg cm g W (h.to hW))
  have HD := hid (show fairL g rows = (fewL g 40 && rightL g && decide (rows.length ≤ 60)) from rfl)
  have x0 := X1.out.cell 0; have x1 := X1.out.cell 1; have xz := X1.out.lt
  simp at x0 x1
  clear h
  generalize fairL g rows = res at *
  go_enter Try.func7, Try.ntmps7
  go_upto_region 1 with fail
  rw [← hw1]
  clear hw1
  go_wp2_with fail
  refine HF.out.mono ?_
  rintro e w2 ⟨rfl, hB⟩
  have B2 := hid (B1.out.trans (hB.mono B1.out.size))
  have X2 := hid (X1.out.below hB X1.out.lt)
  clear hB HF B1 X1 x0 x1 xz
  have x0 := X2.out.cell 0; have x1 := X2.out.cell 1; have xz := X2.out.lt
  simp at x0 x1
  cases hf : fewL g 40 with
  | false =>
    have hr := hid (show res = false by rw [HD.out, hf]; rfl)
    clear HD hf
    as_aux_lemma =>
      go_wp2_with fail
      go_ret
      exact ⟨ret_bool hr.out.symm, B2.out⟩
  | true =>
  rw [hf, Bool.true_and] at HD
  clear hf
  have HC := hid (HR.out w2 B2.out)
  go_wp2_with fail
  refine HC.out.mono ?_
  rintro e w3 ⟨rfl, hB⟩
  have B3 := hid (B2.out.trans (hB.mono B2.out.size))
  clear hB HC HR B2 X2 x0 x1 xz
  cases hf : rightL g with
  | false =>
    have hr := hid (show res = false by rw [HD.out, hf]; rfl)
    clear HD hf
    as_aux_lemma =>
      go_wp2_with fail
      go_ret
      exact ⟨ret_bool hr.out.symm, B3.out⟩
  | true =>
  rw [hf, Bool.true_and] at HD
  clear hf
  by_cases h6 : (rows.length : Int) ≤ 60
  · have hr := hid (show res = true by rw [HD.out]; exact decide_eq_true (by omega))
    clear HD
    as_aux_lemma =>
      go_wp2_with fail
      go_ret
      exact ⟨ret_bool hr.out.symm, B3.out⟩
  · have hr := hid (show res = false by rw [HD.out]; exact decide_eq_false (by omega))
    clear HD
    as_aux_lemma =>
      go_wp2_with fail
      go_ret
      exact ⟨ret_bool (by rw [hr.out]; exact decide_eq_false (by omega)), B3.out⟩
end Go.Proofs.Ytdjjhflhdhihcaa
