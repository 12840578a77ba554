
/- Game: the law's examples. -/
import Derived.Test.YtiaplhdgchbkkaaGamN
set_option linter.unusedSimpArgs false
set_option linter.unusedVariables false
namespace Go.Proofs.Ytiaplhdgchbkkaa
open Go.RowKit Go.IntWalk Go.Shelf

theorem SlR.of_blk {T : Type} [Rep T] {w : World} {g : Nat} {t : TypeId} {cs : Array Value} {B : Nat} (h : Blk w g t cs) (hg : g < B) {l : List T} (he : ∀ k x, l[k]? = some x → ∃ es, es.length = Rep.size T ∧ Rep.rep w B es x ∧ ∀ (j : Nat) (u : Value), es[j]? = some u → cs[k * Rep.size T + j]? = some u) : SlR w B (some ⟨g, 0, none⟩) l := by
  intro k x hx
  obtain ⟨es, h1, h2, h3⟩ := he k x hx
  exact ⟨g, 0, es, rfl, hg, h1, fun j u hu => by rw [Nat.zero_add, h.cell]; exact h3 j u hu, h2⟩
theorem rep_list {T : Type} [Rep T] {w : World} {B : Nat} {A : Option Addr} {l : List T} {n c : Nat} (hn : l.length = n) (hc : n ≤ c) (hm : c ≤ maxLen) (h : SlR w B A l) : Rep.rep w B [.slice A n c] l := ⟨A, c, by rw [hn], by omega, hm, h⟩
def sampleG : Gm := ([false, false, false, true], [[(0, [1]), (1, [1, 2])], [(0, [3])], [(5, [0, 2])], []])
theorem sample_ok : GmOK sampleG := by
  refine ⟨rfl, by decide, ?_, ?_⟩
  · intro l hl
    simp only [sampleG, List.mem_cons, List.not_mem_nil, or_false] at hl
    rcases hl with rfl | rfl | rfl | rfl <;> decide
  · intro l hl m hm
    simp only [sampleG, List.mem_cons, List.not_mem_nil, or_false] at hl
    rcases hl with rfl | rfl | rfl | rfl
    · simp only [List.mem_cons, List.not_mem_nil, or_false] at hm
      rcases hm with rfl | rfl <;> simp [sampleG]
    · simp only [List.mem_cons, List.not_mem_nil, or_false] at hm
      subst hm; simp [sampleG]
    · simp only [List.mem_cons, List.not_mem_nil, or_false] at hm
      subst hm; simp [sampleG]
    · simp at hm
theorem sample_ranks : rankL sampleG = [2, 1, -1, 0] := by decide
theorem sample_rows : solveL sampleG = [(0, 0, 2), (1, 0, 1), (3, -1, 0)] := by decide
theorem sample_right : rightL sampleG = true := by decide
theorem sample_answer : answerL sampleG [2, 1, -1, 0] 0 1 = (2, true) := by decide
/-- Two cells of a move. -/
theorem rep_mv {w : World} {B : Nat} {A : Option Addr} {a : Int} {l : List Int} {n c : Nat} (ha : I64 a) (hn : l.length = n) (hc : n ≤ c) (hm : c ≤ maxLen) (h : SlR w B A l) : Rep.rep w B [.int .i64 a, .slice A n c] ((a, l) : Mv) :=
  ⟨[.int .i64 a], [.slice A n c], rfl, rfl, rfl, ⟨rfl, ha⟩, rep_list hn hc hm h⟩
set_option maxRecDepth 100000 in
set_option maxHeartbeats 2000000 in
theorem sample_any (w : World) :
    Calls Try.prog 27 #[] w fun e w' => ∃ Ag Am, e = .returned (.agg #[.slice Ag 4 4, .slice Am 4 4]) ∧ GmR w' w'.heap.size Ag Am sampleG ∧ Below w.heap.size w w' := by
  go_enter Try.func27, Try.ntmps27
  go_wp2_with fail
  generalize hW : World.alloc _ _ = W
  have x0 : Blk W (w.heap.size) 25 #[.slice (some ⟨w.heap.size + 1, 0, none⟩) 4 4, .slice (some ⟨w.heap.size + 1 + 1 + 1 + 1 + 1 + 1 + 1 + 1 + 1, 0, none⟩) 4 4] := by rw [← hW]; repeat (first | exact Blk.new_at (by simp) | refine Blk.alloc ?_ _)
  have x1 : Blk W (w.heap.size + 1) 4 #[.bool false, .bool false, .bool false, .bool true] := by rw [← hW]; repeat (first | exact Blk.new_at (by simp) | refine Blk.alloc ?_ _)
  have x2 : Blk W (w.heap.size + 1 + 1) 3 #[.int .i64 1] := by rw [← hW]; repeat (first | exact Blk.new_at (by simp) | refine Blk.alloc ?_ _)
  have x3 : Blk W (w.heap.size + 1 + 1 + 1) 3 #[.int .i64 1, .int .i64 2] := by rw [← hW]; repeat (first | exact Blk.new_at (by simp) | refine Blk.alloc ?_ _)
  have x4 : Blk W (w.heap.size + 1 + 1 + 1 + 1) 41 #[.int .i64 0, .slice (some ⟨w.heap.size + 1 + 1, 0, none⟩) 1 1, .int .i64 1, .slice (some ⟨w.heap.size + 1 + 1 + 1, 0, none⟩) 2 2] := by rw [← hW]; repeat (first | exact Blk.new_at (by simp) | refine Blk.alloc ?_ _)
  have x5 : Blk W (w.heap.size + 1 + 1 + 1 + 1 + 1) 3 #[.int .i64 3] := by rw [← hW]; repeat (first | exact Blk.new_at (by simp) | refine Blk.alloc ?_ _)
  have x6 : Blk W (w.heap.size + 1 + 1 + 1 + 1 + 1 + 1) 41 #[.int .i64 0, .slice (some ⟨w.heap.size + 1 + 1 + 1 + 1 + 1, 0, none⟩) 1 1] := by rw [← hW]; repeat (first | exact Blk.new_at (by simp) | refine Blk.alloc ?_ _)
  have x7 : Blk W (w.heap.size + 1 + 1 + 1 + 1 + 1 + 1 + 1) 3 #[.int .i64 0, .int .i64 2] := by rw [← hW]; repeat (first | exact Blk.new_at (by simp) | refine Blk.alloc ?_ _)
  have x8 : Blk W (w.heap.size + 1 + 1 + 1 + 1 + 1 + 1 + 1 + 1) 41 #[.int .i64 5, .slice (some ⟨w.heap.size + 1 + 1 + 1 + 1 + 1 + 1 + 1, 0, none⟩) 2 2] := by rw [← hW]; repeat (first | exact Blk.new_at (by simp) | refine Blk.alloc ?_ _)
  have x9 : Blk W (w.heap.size + 1 + 1 + 1 + 1 + 1 + 1 + 1 + 1 + 1) 38 #[.slice (some ⟨w.heap.size + 1 + 1 + 1 + 1, 0, none⟩) 2 2, .slice (some ⟨w.heap.size + 1 + 1 + 1 + 1 + 1 + 1, 0, none⟩) 1 1, .slice (some ⟨w.heap.size + 1 + 1 + 1 + 1 + 1 + 1 + 1 + 1, 0, none⟩) 1 1, .slice none 0 0] := by rw [← hW]; repeat (first | exact Blk.new_at (by simp) | refine Blk.alloc ?_ _)
  have hz : W.heap.size = w.heap.size + 1 + 1 + 1 + 1 + 1 + 1 + 1 + 1 + 1 + 1 := by rw [← hW]; simp
  have hB : Below w.heap.size w W := by rw [← hW]; (repeat (first | exact Below.refl _ _ | assumption | refine below_drewN ?_ _ | refine Below.drew ?_ | refine Below.alloc ?_ (by (try simp); (try omega)) _ | refine Below.setCell ?_ (by (try simp); (try omega)) _))
  clear hW
  have i1 : SlR W W.heap.size (some ⟨w.heap.size + 1 + 1, 0, none⟩) [(1 : Int)] := Blk.ints (l := [1]) x2 x2.lt (by simp [I64])
  have i2 : SlR W W.heap.size (some ⟨w.heap.size + 1 + 1 + 1, 0, none⟩) [(1 : Int), 2] := Blk.ints (l := [1, 2]) x3 x3.lt (by simp [I64])
  have i3 : SlR W W.heap.size (some ⟨w.heap.size + 1 + 1 + 1 + 1 + 1, 0, none⟩) [(3 : Int)] := Blk.ints (l := [3]) x5 x5.lt (by simp [I64])
  have i4 : SlR W W.heap.size (some ⟨w.heap.size + 1 + 1 + 1 + 1 + 1 + 1 + 1, 0, none⟩) [(0 : Int), 2] := Blk.ints (l := [0, 2]) x7 x7.lt (by simp [I64])
  have i0 : SlR W W.heap.size (some ⟨w.heap.size + 1, 0, none⟩) [false, false, false, true] := Blk.bools (l := [false, false, false, true]) x1 x1.lt
  have hm9 : (4 : Nat) ≤ maxLen := by unfold maxLen; omega
  have m1 : SlR W W.heap.size (some ⟨w.heap.size + 1 + 1 + 1 + 1, 0, none⟩) [((0, [1]) : Mv), (1, [1, 2])] := SlR.of_blk x4 x4.lt (fun k x hx => by
    match k, hx with
    | 0, hx => simp at hx; subst hx; exact ⟨[_, _], rfl, rep_mv (by simp [I64]) rfl (Nat.le_refl _) (by simp; omega) i1, fun j u hu => by match j, hu with | 0, hu => simpa using hu | 1, hu => simpa using hu | j + 2, hu => simp at hu⟩
    | 1, hx => simp at hx; subst hx; exact ⟨[_, _], rfl, rep_mv (by simp [I64]) rfl (Nat.le_refl _) (by simp; omega) i2, fun j u hu => by match j, hu with | 0, hu => simpa [Rep.size] using hu | 1, hu => simpa [Rep.size] using hu | j + 2, hu => simp at hu⟩
    | k + 2, hx => simp at hx)
  have m2 : SlR W W.heap.size (some ⟨w.heap.size + 1 + 1 + 1 + 1 + 1 + 1, 0, none⟩) [((0, [3]) : Mv)] := SlR.of_blk x6 x6.lt (fun k x hx => by
    match k, hx with
    | 0, hx => simp at hx; subst hx; exact ⟨[_, _], rfl, rep_mv (by simp [I64]) rfl (Nat.le_refl _) (by simp; omega) i3, fun j u hu => by match j, hu with | 0, hu => simpa using hu | 1, hu => simpa using hu | j + 2, hu => simp at hu⟩
    | k + 1, hx => simp at hx)
  have m3 : SlR W W.heap.size (some ⟨w.heap.size + 1 + 1 + 1 + 1 + 1 + 1 + 1 + 1, 0, none⟩) [((5, [0, 2]) : Mv)] := SlR.of_blk x8 x8.lt (fun k x hx => by
    match k, hx with
    | 0, hx => simp at hx; subst hx; exact ⟨[_, _], rfl, rep_mv (by simp [I64]) rfl (Nat.le_refl _) (by simp; omega) i4, fun j u hu => by match j, hu with | 0, hu => simpa using hu | 1, hu => simpa using hu | j + 2, hu => simp at hu⟩
    | k + 1, hx => simp at hx)
  have ms : SlR W W.heap.size (some ⟨w.heap.size + 1 + 1 + 1 + 1 + 1 + 1 + 1 + 1 + 1, 0, none⟩) sampleG.2 := SlR.of_blk x9 x9.lt (fun k x hx => by
    match k, hx with
    | 0, hx => simp [sampleG] at hx; subst hx; exact ⟨[_], rfl, rep_list rfl (Nat.le_refl _) (by simp; omega) m1, fun j u hu => by match j, hu with | 0, hu => simpa using hu | j + 1, hu => simp at hu⟩
    | 1, hx => simp [sampleG] at hx; subst hx; exact ⟨[_], rfl, rep_list rfl (Nat.le_refl _) (by simp; omega) m2, fun j u hu => by match j, hu with | 0, hu => simpa [Rep.size] using hu | j + 1, hu => simp at hu⟩
    | 2, hx => simp [sampleG] at hx; subst hx; exact ⟨[_], rfl, rep_list rfl (Nat.le_refl _) (by simp; omega) m3, fun j u hu => by match j, hu with | 0, hu => simpa [Rep.size] using hu | j + 1, hu => simp at hu⟩
    | 3, hx => simp [sampleG] at hx; subst hx; exact ⟨[.slice none 0 0], rfl, rep_list rfl (Nat.le_refl _) (by simp) SlR.nil, fun j u hu => by match j, hu with | 0, hu => simpa [Rep.size] using hu | j + 1, hu => simp at hu⟩
    | k + 4, hx => simp [sampleG] at hx)
  have y0 := x0.cell 0; have y1 := x0.cell 1; have yz := x0.lt
  simp at y0 y1
  refine bodyPost_ret (v := .agg #[.slice (some ⟨w.heap.size + 1, 0, none⟩) 4 4, .slice (some ⟨w.heap.size + 1 + 1 + 1 + 1 + 1 + 1 + 1 + 1 + 1, 0, none⟩) 4 4]) (by simp [results, Try.results27, go_sem, y0, y1, yz]) rfl ⟨_, _, rfl, ⟨i0, ms, by simp only [sampleG]; exact hm9, by simp only [sampleG]; exact hm9⟩, hB⟩
set_option maxRecDepth 100000 in
set_option maxHeartbeats 4000000 in
theorem small_any (w : World) :
    Calls Try.prog 9 #[] w fun e w' => e = .returned (.bool true) ∧ Below w.heap.size w w' := by
  have HS := hid (sample_any w)
  go_enter Try.func9, Try.ntmps9
  go_wp2_with fail
  refine HS.out.mono ?_
  rintro e w1 ⟨Ag, Am, rfl, hg1, hB1⟩
  have X2 := hid (Blk.new w1 25 #[.slice Ag 4 4, .slice Am 4 4])
  have B2 := hid (hB1.alloc hB1.size (Obj.cells #[.slice Ag 4 4, .slice Am 4 4] 25))
  have G2 := hid (hg1.to ((Below.refl w1.heap.size w1).alloc (Nat.le_refl _) (Obj.cells #[.slice Ag 4 4, .slice Am 4 4] 25)))
  have n4 : Blk (w1.alloc (Obj.cells #[.slice none 0 0, .slice none 0 0] 25)) w1.heap.size 25 #[.slice none 0 0, .slice none 0 0] := Blk.new _ _ _
  clear hg1 hB1 HS
  go_upto_region 2 with fail
  generalize w1.alloc (Obj.cells #[.slice Ag 4 4, .slice Am 4 4] 25) = w2 at *
  generalize w1.heap.size = gb at *
  clear n4
  have HR := hid (show Calls Try.prog 17 #[.agg #[.slice Ag 4 4, .slice Am 4 4]] w2 _ from ranks_any Ag Am 4 4 sampleG w2 G2.out sample_ok)
  have x0 := X2.out.cell 0; have x1 := X2.out.cell 1; have xz := X2.out.lt
  simp at x0 x1
  go_wp2_with fail
  refine HR.out.mono ?_
  rintro e w3 ⟨v3, rfl, ho3, hB3⟩
  rw [sample_ranks] at ho3
  obtain ⟨AR, cR, rfl, _, _, hs3⟩ := ho3.slr (by simp [I64])
  have B3 := hid (B2.out.trans (hB3.mono B2.out.size))
  have X3 := hid (X2.out.below hB3 X2.out.lt)
  have G3 := hid (G2.out.to hB3)
  have S3 := hid hs3
  clear ho3 hB3 hs3 x0 x1 xz HR X2 B2 G2
  simp only [List.length_cons, List.length_nil, Nat.reduceAdd]
  have HR := hid (show Calls Try.prog 19 #[.agg #[.slice Ag 4 4, .slice Am 4 4]] w3 _ from solve_any Ag Am 4 4 sampleG w3 G3.out sample_ok)
  have x0 := X3.out.cell 0; have x1 := X3.out.cell 1; have xz := X3.out.lt
  simp at x0 x1
  go_wp2_with fail
  refine HR.out.mono ?_
  rintro e w4 ⟨v4, rfl, ho4, hB4⟩
  rw [sample_rows] at ho4
  obtain ⟨AS, cS, rfl, _, _, hs4⟩ := ho4.slr (by simp [RowI, I64])
  have B4 := hid (B3.out.trans (hB4.mono B3.out.size))
  have X4 := hid (X3.out.below hB4 X3.out.lt)
  have G4 := hid (G3.out.to hB4)
  have S4 := hid ((S3.out.below hB4).more hB4.size)
  have T4 := hid hs4
  clear ho4 hB4 hs4 x0 x1 xz HR X3 B3 G3 S3
  simp only [List.length_cons, List.length_nil, Nat.reduceAdd]
  have HR := hid (show Calls Try.prog 14 #[.agg #[.slice Ag 4 4, .slice Am 4 4], .slice AR 4 cR, .int .i64 0, .int .i64 1] w4 _ from answer_any Ag Am AR 4 4 cR sampleG [2, 1, -1, 0] 0 1 w4 G4.out sample_ok (by simp [maxLen]) S4.out)
  rw [sample_answer] at HR
  have x0 := X4.out.cell 0; have x1 := X4.out.cell 1; have xz := X4.out.lt
  simp at x0 x1
  go_wp2_with fail
  refine HR.out.mono ?_
  rintro e w5 ⟨rfl, hB5⟩
  have B5 := hid (B4.out.trans (hB5.mono B4.out.size))
  have X5 := hid (X4.out.below hB5 X4.out.lt)
  have G5 := hid (G4.out.to hB5)
  have S5 := hid ((S4.out.below hB5).more hB5.size)
  have T5 := hid ((T4.out.below hB5).more hB5.size)
  clear hB5 x0 x1 xz HR X4 B4 G4 S4 T4
  go_upto_region 6 with fail
  have bR := Blk.new w5 43 #[.int .i64 0, .int .i64 0, .int .i64 2, .int .i64 1, .int .i64 0, .int .i64 1, .int .i64 3, .int .i64 (-1), .int .i64 0]
  have b56 : Below w5.heap.size w5 (w5.alloc (Obj.cells #[.int .i64 0, .int .i64 0, .int .i64 2, .int .i64 1, .int .i64 0, .int .i64 1, .int .i64 3, .int .i64 (-1), .int .i64 0] 43)) := (Below.refl _ _).alloc (Nat.le_refl _) _
  have B6 := hid (B5.out.trans (b56.mono B5.out.size))
  have X6 := hid (X5.out.below b56 X5.out.lt)
  have G6 := hid (G5.out.to b56)
  have S6 := hid ((S5.out.below b56).more b56.size)
  have T6 := hid ((T5.out.below b56).more b56.size)
  generalize hw6 : w5.alloc (Obj.cells #[.int .i64 0, .int .i64 0, .int .i64 2, .int .i64 1, .int .i64 0, .int .i64 1, .int .i64 3, .int .i64 (-1), .int .i64 0] 43) = w6 at *
  have L6 : SlR w6 w6.heap.size (some ⟨w5.heap.size, 0, none⟩) [((0, 0, 2) : Row), (1, 0, 1), (3, -1, 0)] := SlR.of_blk bR bR.lt (fun k x hx => by
    match k, hx with
    | 0, hx => simp at hx; subst hx; exact ⟨[.int .i64 0, .int .i64 0, .int .i64 2], rfl, ⟨[_], [_, _], rfl, rfl, rfl, ⟨rfl, by simp [I64]⟩, [_], [_], rfl, rfl, rfl, ⟨rfl, by simp [I64]⟩, rfl, by simp [I64]⟩, fun j u hu => by match j, hu with | 0, hu => simpa [Rep.size] using hu | 1, hu => simpa [Rep.size] using hu | 2, hu => simpa [Rep.size] using hu | j + 3, hu => simp at hu⟩
    | 1, hx => simp at hx; subst hx; exact ⟨[.int .i64 1, .int .i64 0, .int .i64 1], rfl, ⟨[_], [_, _], rfl, rfl, rfl, ⟨rfl, by simp [I64]⟩, [_], [_], rfl, rfl, rfl, ⟨rfl, by simp [I64]⟩, rfl, by simp [I64]⟩, fun j u hu => by match j, hu with | 0, hu => simpa [Rep.size] using hu | 1, hu => simpa [Rep.size] using hu | 2, hu => simpa [Rep.size] using hu | j + 3, hu => simp at hu⟩
    | 2, hx => simp at hx; subst hx; exact ⟨[.int .i64 3, .int .i64 (-1), .int .i64 0], rfl, ⟨[_], [_, _], rfl, rfl, rfl, ⟨rfl, by simp [I64]⟩, [_], [_], rfl, rfl, rfl, ⟨rfl, by simp [I64]⟩, rfl, by simp [I64]⟩, fun j u hu => by match j, hu with | 0, hu => simpa [Rep.size] using hu | 1, hu => simpa [Rep.size] using hu | 2, hu => simpa [Rep.size] using hu | j + 3, hu => simp at hu⟩
    | k + 3, hx => simp at hx)
  have M6 := hid L6
  generalize w5.heap.size = gl at *
  clear bR b56 L6 hw6 B5 X5 G5 S5 T5
  have HR := hid (show Calls Try.prog 11 #[.agg #[.slice Ag 4 4, .slice Am 4 4]] w6 _ from right_any Ag Am 4 4 sampleG w6 G6.out)
  rw [sample_right] at HR
  have x0 := X6.out.cell 0; have x1 := X6.out.cell 1; have xz := X6.out.lt
  simp at x0 x1
  go_wp2_with fail
  refine HR.out.mono ?_
  rintro e w7 ⟨rfl, hB7⟩
  have b78 : Below w6.heap.size w6 (w7.alloc (Obj.cells #[.int .i64 2, .int .i64 1, .int .i64 (-1), .int .i64 0] 3)) := hB7.alloc hB7.size _
  have bI := Blk.new w7 3 #[.int .i64 2, .int .i64 1, .int .i64 (-1), .int .i64 0]
  have B8 := hid (B6.out.trans (b78.mono B6.out.size))
  have S8 := hid ((S6.out.below b78).more b78.size)
  have T8 := hid ((T6.out.below b78).more b78.size)
  have M8 := hid ((M6.out.below b78).more b78.size)
  have N8 : SlR (w7.alloc (Obj.cells #[.int .i64 2, .int .i64 1, .int .i64 (-1), .int .i64 0] 3)) (w7.alloc (Obj.cells #[.int .i64 2, .int .i64 1, .int .i64 (-1), .int .i64 0] 3)).heap.size (some ⟨w7.heap.size, 0, none⟩) [(2 : Int), 1, -1, 0] := Blk.ints (l := [2, 1, -1, 0]) bI bI.lt (by simp [I64])
  have HI := hid (show Calls Try.prog 16 #[.slice AR 4 cR, .slice (some ⟨w7.heap.size, 0, none⟩) 4 4] (w7.alloc (Obj.cells #[.int .i64 2, .int .i64 1, .int .i64 (-1), .int .i64 0] 3)) _ from ints_any AR (some ⟨w7.heap.size, 0, none⟩) cR 4 [2, 1, -1, 0] [2, 1, -1, 0] _ (by simp [maxLen]) (by simp [maxLen]) S8.out N8)
  clear hB7 b78 bI HR x0 x1 xz X6 G6 S6 T6 M6 B6 N8
  go_wp2_with fail
  refine HI.out.mono ?_
  rintro e w9 ⟨rfl, hB9⟩
  have B9 := hid (B8.out.trans (hB9.mono B8.out.size))
  have HR := hid (show Calls Try.prog 18 #[.slice AS 3 cS, .slice (some ⟨gl, 0, none⟩) 3 3] w9 _ from samerows_any AS (some ⟨gl, 0, none⟩) cS 3 [(0, 0, 2), (1, 0, 1), (3, -1, 0)] [(0, 0, 2), (1, 0, 1), (3, -1, 0)] _ (by simp [maxLen]) (by simp [maxLen]) ((T8.out.below hB9).more hB9.size) ((M8.out.below hB9).more hB9.size))
  clear hB9 HI
  simp only [decide_true] at HR ⊢
  go_wp2_with fail
  refine HR.out.mono ?_
  rintro e w10 ⟨rfl, hB10⟩
  have B10 := hid (B9.out.trans (hB10.mono B9.out.size))
  clear hB10 HR
  go_wp2_with fail
  go_ret
  exact ⟨rfl, B10.out⟩
end Go.Proofs.Ytiaplhdgchbkkaa
