
/- Stock: plain words: what the chapter's functions compute, without a program. -/
import Derived.Test.YtfpehakllnkaeaaGreatDoorBase
set_option linter.unusedSimpArgs false
set_option linter.unusedVariables false
namespace Go.Proofs.YtfpehakllnkaeaaGreatDoor
open Go.RowKit Go.IntWalk

instance decBytes : DecidableEq ByteArray := fun a b => if h : a.data.toList = b.data.toList then isTrue (by cases a; cases b; simp at h; rw [h]) else isFalse (fun e => h (by rw [e]))
/-- A kind: its name, a unit's weight. A lot: its kind, its expiry, whether it is frozen. A box: its lot, its units, its tare. A want: its kind, its count, until when. A take: a box, how many units. -/
abbrev Kd := ByteArray × Int
abbrev Lt := Int × Int × Bool
abbrev Bx := Int × Int × Int
abbrev Wt := Int × Int × Int
abbrev Tk := Int × Int
def fitF (l : Lt) (w : Wt) : Bool := decide (l.1 = w.1) && (!l.2.2) && decide (w.2.2 ≤ l.2.1)
def lotAt (lots : List Lt) (b : Bx) : Lt := lots.getD b.1.toNat (0, 0, false)
def hasF (lots : List Lt) (w : Wt) (b : Bx) : Bool := decide (0 ≤ b.1) && decide (b.1 < lots.length) && fitF (lotAt lots b) w
def sumI (l : List Int) : Int := l.foldr (· + ·) 0
theorem sumI_app (a b : List Int) : sumI (a ++ b) = sumI a + sumI b := by induction a with | nil => simp [sumI] | cons x a ih => simp only [sumI, List.cons_append, List.foldr_cons] at ih ⊢; omega
def unitsL (bs : List Bx) : Int := sumI (bs.map (fun b => b.2.1))
theorem unitsL_take {bs : List Bx} {k : Nat} (h : k < bs.length) : unitsL (bs.take (k + 1)) = unitsL (bs.take k) + bs[k].2.1 := by
  unfold unitsL
  rw [List.take_add_one, List.getElem?_eq_getElem h, Option.toList_some, List.map_append, sumI_app]
  simp [sumI]
def supplyL (lots : List Lt) (bs : List Bx) (w : Wt) : Int := sumI ((bs.filter (hasF lots w)).map (fun b => b.2.1))
theorem supplyL_take {lots : List Lt} {bs : List Bx} {w : Wt} {k : Nat} (h : k < bs.length) : supplyL lots (bs.take (k + 1)) w = supplyL lots (bs.take k) w + if hasF lots w bs[k] then bs[k].2.1 else 0 := by
  unfold supplyL
  rw [List.take_add_one, List.getElem?_eq_getElem h, Option.toList_some, List.filter_append, List.map_append, sumI_app]
  by_cases hx : hasF lots w bs[k] <;> simp [hx, sumI]
/-! ### Right -/
def btw (n lo hi : Int) : Bool := decide (lo ≤ n) && decide (n ≤ hi)
def boxF (n : Int) (b : Bx) : Bool := btw b.2.2 0 1000000 && btw b.1 (-1) (n - 1) && btw b.2.1 0 20000 && (decide (0 ≤ b.1) || decide (b.2.1 = 0))
def lotF (n : Int) (l : Lt) : Bool := btw l.1 0 (n - 1) && btw l.2.1 0 20000
def kindF (k : Kd) : Bool := btw k.1.size 1 20 && btw k.2 1 10000
/-- No name twice. -/
def namesF : List ByteArray → List Kd → Bool
  | _, [] => true
  | seen, k :: r => kindF k && (!seen.any (fun y => decide (k.1 = y))) && namesF (seen ++ [k.1]) r
def kindsF (ks : List Kd) : Bool := namesF [] ks && decide (ks.length ≤ 500)
def rightS (ks : List Kd) (lots : List Lt) (bs : List Bx) : Bool :=
  decide (lots.length ≤ 2000) && decide (bs.length ≤ 3000) && kindsF ks && lots.all (lotF ks.length) && bs.all (boxF lots.length) && decide (unitsL bs ≤ 20000)
def weightF (ks : List Kd) (lots : List Lt) (b : Bx) : Int := if b.1 < 0 then b.2.2 else b.2.2 + b.2.1 * (ks.getD (lotAt lots b).1.toNat (ByteArray.empty, 0)).2
/-! ### The order of boxes -/
def cntAt (bs : List Bx) (i : Nat) : Int := (bs.getD i (0, 0, 0)).2.1
def expAt (lots : List Lt) (bs : List Bx) (i : Nat) : Int := (lotAt lots (bs.getD i (0, 0, 0))).2.1
def candL (lots : List Lt) (bs : List Bx) (w : Wt) (n : Nat) : List Nat := (List.range n).filter (fun i => decide (0 < cntAt bs i) && hasF lots w (bs.getD i (0, 0, 0)))
theorem candL_succ (lots : List Lt) (bs : List Bx) (w : Wt) (n : Nat) : candL lots bs w (n + 1) = candL lots bs w n ++ if decide (0 < cntAt bs n) && hasF lots w (bs.getD n (0, 0, 0)) then [n] else [] := by
  unfold candL
  rw [List.range_succ, List.filter_append]
  congr 1
  by_cases h : (decide (0 < cntAt bs n) && hasF lots w (bs.getD n (0, 0, 0))) = true
  · rw [if_pos h]; simp only [List.filter_cons, h, if_true, List.filter_nil]
  · rw [if_neg h]; simp only [List.filter_cons, h, List.filter_nil]; rfl
/-- x goes behind those that are no greater. -/
def insS (key : Nat → Int) (x : Nat) (l : List Nat) : List Nat := l.takeWhile (fun y => decide (key y ≤ key x)) ++ x :: l.dropWhile (fun y => decide (key y ≤ key x))
def isort (key : Nat → Int) (l : List Nat) : List Nat := l.foldl (fun acc x => insS key x acc) []
theorem isort_snoc (key : Nat → Int) (l : List Nat) (x : Nat) : isort key (l ++ [x]) = insS key x (isort key l) := by unfold isort; rw [List.foldl_append]; rfl
theorem insS_perm (key : Nat → Int) (x : Nat) (l : List Nat) : (insS key x l).Perm (x :: l) := by
  unfold insS
  have := List.perm_middle (a := x) (l₁ := l.takeWhile (fun y => decide (key y ≤ key x))) (l₂ := l.dropWhile (fun y => decide (key y ≤ key x)))
  rwa [List.takeWhile_append_dropWhile] at this
theorem isort_perm (key : Nat → Int) (l : List Nat) : (isort key l).Perm l := by
  have : ∀ (l acc : List Nat), (l.foldl (fun acc x => insS key x acc) acc).Perm (acc ++ l) := by
    intro l
    induction l with
    | nil => intro acc; simp
    | cons x l ih =>
      intro acc
      refine (ih _).trans ?_
      refine ((insS_perm key x acc).append_right l).trans ?_
      exact List.perm_middle.symm
  simpa [isort] using this l []
def Srt (key : Nat → Int) (l : List Nat) : Prop := l.Pairwise (fun a b => key a ≤ key b)
theorem srt_tail_gt {key : Nat → Int} {x : Nat} : ∀ {l : List Nat}, Srt key l → ∀ y ∈ l.dropWhile (fun y => decide (key y ≤ key x)), key x < key y
  | [], _, y, hy => by simp at hy
  | a :: l, h, y, hy => by
    have h' := List.pairwise_cons.1 h
    by_cases ha : key a ≤ key x
    · rw [List.dropWhile_cons_of_pos (by simpa using ha)] at hy
      exact srt_tail_gt h'.2 y hy
    · rw [List.dropWhile_cons_of_neg (by simpa using ha)] at hy
      rcases List.mem_cons.1 hy with rfl | hy
      · omega
      · have := h'.1 y hy; omega
theorem insS_srt {key : Nat → Int} {x : Nat} {l : List Nat} (h : Srt key l) : Srt key (insS key x l) := by
  have h0 : Srt key (l.takeWhile (fun y => decide (key y ≤ key x)) ++ l.dropWhile (fun y => decide (key y ≤ key x))) := by rwa [List.takeWhile_append_dropWhile]
  have h1 := List.pairwise_append.1 h0
  refine List.pairwise_append.2 ⟨h1.1, List.pairwise_cons.2 ⟨fun y hy => ?_, h1.2.1⟩, fun a ha b hb => ?_⟩
  · have := srt_tail_gt h y hy; omega
  · rcases List.mem_cons.1 hb with rfl | hb
    · have := List.all_eq_true.1 (List.all_takeWhile (p := fun y => decide (key y ≤ key b)) (l := l)) a ha; simpa using this
    · exact h1.2.2 a ha b hb
theorem isort_srt (key : Nat → Int) (l : List Nat) : Srt key (isort key l) := by
  have : ∀ (l acc : List Nat), Srt key acc → Srt key (l.foldl (fun acc x => insS key x acc) acc) := by
    intro l
    induction l with
    | nil => intro acc h; exact h
    | cons x l ih => intro acc h; exact ih _ (insS_srt h)
  exact this l [] List.Pairwise.nil
/-- Where x has been moved down to j, past greater ones, and no further. -/
theorem insS_at {key : Nat → Int} {x : Nat} {l : List Nat} {j : Nat} (hj : j ≤ l.length) (hs : Srt key l) (hgt : ∀ y ∈ l.drop j, key x < key y) (hle : ∀ (h : 0 < j), key (l[j - 1]'(by omega)) ≤ key x) : l.take j ++ x :: l.drop j = insS key x l := by
  have hall : ∀ y ∈ l.take j, key y ≤ key x := by
    intro y hy
    obtain ⟨i, hi, rfl⟩ := List.getElem_of_mem hy
    simp only [List.length_take] at hi
    rw [List.getElem_take]
    have h0 := hle (by omega)
    rcases Nat.lt_or_ge i (j - 1) with h | h
    · have := List.pairwise_iff_getElem.1 hs i (j - 1) (by omega) (by omega) h
      omega
    · have : i = j - 1 := by omega
      subst this
      exact h0
  have e1 : l.takeWhile (fun y => decide (key y ≤ key x)) = l.take j := by
    conv => lhs; rw [← List.take_append_drop j l]
    rw [List.takeWhile_append_of_pos (fun a ha => by simpa using hall a ha)]
    cases hd : l.drop j with
    | nil => simp
    | cons a r =>
      have := hgt a (by rw [hd]; exact List.mem_cons_self ..)
      rw [List.takeWhile_cons_of_neg (by simpa using this)]
      simp
  have e2 : l.dropWhile (fun y => decide (key y ≤ key x)) = l.drop j := by
    have h := List.takeWhile_append_dropWhile (p := fun y => decide (key y ≤ key x)) (l := l)
    rw [e1] at h
    have h2 := List.take_append_drop j l
    exact List.append_cancel_left (h.trans h2.symm)
  unfold insS
  rw [e1, e2]
def orderL (lots : List Lt) (bs : List Bx) (w : Wt) : List Nat := isort (expAt lots bs) (candL lots bs w bs.length)
theorem orderL_mem {lots : List Lt} {bs : List Bx} {w : Wt} {i : Nat} : i ∈ orderL lots bs w ↔ i < bs.length ∧ 0 < cntAt bs i ∧ hasF lots w (bs.getD i (0, 0, 0)) = true := by
  unfold orderL
  rw [(isort_perm _ _).mem_iff]
  unfold candL
  simp [and_assoc]
theorem orderL_nodup (lots : List Lt) (bs : List Bx) (w : Wt) : (orderL lots bs w).Nodup := ((isort_perm _ _).nodup_iff).2 (List.nodup_range.filter _)
theorem orderL_srt (lots : List Lt) (bs : List Bx) (w : Wt) : Srt (expAt lots bs) (orderL lots bs w) := isort_srt _ _
theorem orderL_len (lots : List Lt) (bs : List Bx) (w : Wt) : (orderL lots bs w).length ≤ bs.length := by
  unfold orderL
  rw [(isort_perm _ _).length_eq]
  unfold candL
  have := List.length_filter_le (fun i => decide (0 < cntAt bs i) && hasF lots w (bs.getD i (0, 0, 0))) (List.range bs.length)
  simpa using this
/-! ### Plan -/
def wantF (w : Wt) : Bool := decide (0 ≤ w.1) && btw w.2.1 1 20000 && btw w.2.2 0 20000
def subAt (bs : List Bx) (i : Nat) (n : Int) : List Bx := bs.set i ((bs.getD i (0, 0, 0)).1, (bs.getD i (0, 0, 0)).2.1 - n, (bs.getD i (0, 0, 0)).2.2)
/-- What is still needed, what is left, what was taken. -/
def serve : List Nat → Int → List Bx → List Tk → Int × List Bx × List Tk
  | [], need, bs, ts => (need, bs, ts)
  | i :: r, need, bs, ts => if min need (cntAt bs i) = 0 then (need, bs, ts) else serve r (need - min need (cntAt bs i)) (subAt bs i (min need (cntAt bs i))) (ts ++ [((i : Int), min need (cntAt bs i))])
def planS (lots : List Lt) : List Wt → List Bx → List (List Tk) → Option (List (List Tk) × List Bx)
  | [], bs, out => some (out, bs)
  | w :: r, bs, out => if 0 < (serve (orderL lots bs w) w.2.1 bs []).1 then none else planS lots r (serve (orderL lots bs w) w.2.1 bs []).2.1 (out ++ [(serve (orderL lots bs w) w.2.1 bs []).2.2])
end Go.Proofs.YtfpehakllnkaeaaGreatDoor
