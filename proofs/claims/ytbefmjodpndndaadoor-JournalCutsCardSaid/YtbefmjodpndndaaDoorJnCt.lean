
/- Journal: two journals on one disk where nothing is lost. -/
import Derived.Test.YtbefmjodpndndaaDoorJoH
set_option linter.unusedSimpArgs false
set_option linter.unusedVariables false
namespace Go.Proofs.YtbefmjodpndndaaDoor
open Go.RowKit Go.IntWalk

def OB (cb jk : Nat) (v : Value) (k : Nat) : Prop := k = cb ∨ k = jk ∨ v.ownBlock = some k
def Far (a b : Int) : Prop := b ≠ a ∧ b ≠ a + 1 ∧ b + 1 ≠ a ∧ b + 1 ≠ a + 1
theorem Far.swap {a b : Int} (h : Far a b) : Far b a := ⟨by have := h.1; omega, by have := h.2.2.1; omega, by have := h.2.1; omega, by have := h.2.2.2; omega⟩
/-- Two journals, and rows of strings that they do not touch. -/
def J2 (w0 w : World) (b : Nat) (jb1 jb2 : Int) (jk1 jk2 : Nat) (l1 l2 : List ByteArray) (N : Nat) (rows : Rws) : Prop :=
  ∃ (L : DL) (s : DS) (cb1 cb2 : Nat) (v1 v2 : Value), JC w w0.heap.size jk1 b cb1 L s jb1 v1 l1 N ∧ JC w w0.heap.size jk2 b cb2 L s jb2 v2 l2 N ∧ (∀ k, OB cb1 jk1 v1 k → ¬ OB cb2 jk2 v2 k) ∧ Rows w w0.heap.size v1 rows ∧ Rows w w0.heap.size v2 rows ∧ Below w0.heap.size w0 w ∧ Far jb1 jb2 ∧ 0 ≤ jb1 ∧ jb1 ≤ 14
section
variable {w0 w w' : World} {b : Nat} {jb1 jb2 : Int} {jk1 jk2 : Nat} {l1 l2 : List ByteArray} {N N' : Nat} {rows : Rws}
theorem J2.swap (h : J2 w0 w b jb1 jb2 jk1 jk2 l1 l2 N rows) (hj : 0 ≤ jb2 ∧ jb2 ≤ 14) : J2 w0 w b jb2 jb1 jk2 jk1 l2 l1 N rows := by
  obtain ⟨L, s, cb1, cb2, v1, v2, h1, h2, h3, h4, h5, h6, h7, _⟩ := h
  exact ⟨L, s, cb2, cb1, v2, v1, h2, h1, fun k hk hk2 => h3 k hk2 hk, h5, h4, h6, h7.swap, hj.1, hj.2⟩
theorem J2.low (h : J2 w0 w b jb1 jb2 jk1 jk2 l1 l2 N rows) : Below w0.heap.size w0 w := by
  obtain ⟨L, s, cb1, cb2, v1, v2, h1, h2, h3, h4, h5, h6, _⟩ := h
  exact h6
theorem J2.below (h : J2 w0 w b jb1 jb2 jk1 jk2 l1 l2 N rows) (hb : Below w.heap.size w w') : J2 w0 w' b jb1 jb2 jk1 jk2 l1 l2 N rows := by
  obtain ⟨L, s, cb1, cb2, v1, v2, h1, h2, h3, h4, h5, h6, h7⟩ := h
  exact ⟨L, s, cb1, cb2, v1, v2, h1.below hb, h2.below hb, h3, h4.below hb, h5.below hb, h6.trans (hb.mono h6.size), h7⟩
theorem J2.mono (h : J2 w0 w b jb1 jb2 jk1 jk2 l1 l2 N rows) (hN : N ≤ N') : J2 w0 w b jb1 jb2 jk1 jk2 l1 l2 N' rows := by
  obtain ⟨L, s, cb1, cb2, v1, v2, h1, h2, h3, h4, h5, h6, h7⟩ := h
  exact ⟨L, s, cb1, cb2, v1, v2, h1.mono hN, h2.mono hN, h3, h4, h5, h6, h7⟩
theorem J2.jr1 (h : J2 w0 w b jb1 jb2 jk1 jk2 l1 l2 N rows) : ∃ cb v, Jr w w0.heap.size jk1 b cb jb1 v l1 false := by
  obtain ⟨L, s, cb1, cb2, v1, v2, h1, _⟩ := h
  exact ⟨cb1, v1, h1.jr⟩
theorem J2.jr2 (h : J2 w0 w b jb1 jb2 jk1 jk2 l1 l2 N rows) : ∃ cb v, Jr w w0.heap.size jk2 b cb jb2 v l2 false := by
  obtain ⟨L, s, cb1, cb2, v1, v2, _, h2, _⟩ := h
  exact ⟨cb2, v2, h2.jr⟩
theorem J2.rows_ (h : J2 w0 w b jb1 jb2 jk1 jk2 l1 l2 N rows) : ∀ r ∈ rows, strRK.Own w w0.heap.size r.1 r.2 := by
  obtain ⟨L, s, cb1, cb2, v1, v2, h1, h2, h3, h4, _⟩ := h
  exact fun r hr => (h4 r hr).1
theorem J2.sub {rows' : Rws} (h : J2 w0 w b jb1 jb2 jk1 jk2 l1 l2 N rows) (hr : ∀ r ∈ rows', r ∈ rows) : J2 w0 w b jb1 jb2 jk1 jk2 l1 l2 N rows' := by
  obtain ⟨L, s, cb1, cb2, v1, v2, h1, h2, h3, h4, h5, h6, h7⟩ := h
  exact ⟨L, s, cb1, cb2, v1, v2, h1, h2, h3, fun r h => h4 r (hr r h), fun r h => h5 r (hr r h), h6, h7⟩
theorem rows_new {base : Nat} {v : Value} (h : Rows w base v rows) (hv : ∀ g, v.ownBlock = some g → g < w.heap.size) (hbase : base ≤ w.heap.size) (hb : Below w.heap.size w w') {rv : Value} {rl : List ByteArray} (ho : strRK.Own w' w.heap.size rv rl) : Rows w' base v ((rv, rl) :: rows) := by
  intro r hr
  rcases List.mem_cons.1 hr with rfl | hr
  · refine ⟨ho.base_ hbase, fun g hg e => ?_⟩
    have := (World.ownsRow.lt ho g hg).1
    have := hv g e
    omega
  · exact h.below hb r hr
/-- A row just made. -/
theorem J2.row (h : J2 w0 w b jb1 jb2 jk1 jk2 l1 l2 N rows) (hb : Below w.heap.size w w') {rv : Value} {rl : List ByteArray} (ho : strRK.Own w' w.heap.size rv rl) : J2 w0 w' b jb1 jb2 jk1 jk2 l1 l2 N ((rv, rl) :: rows) := by
  obtain ⟨L, s, cb1, cb2, v1, v2, h1, h2, h3, h4, h5, h6, h7⟩ := h
  exact ⟨L, s, cb1, cb2, v1, v2, h1.below hb, h2.below hb, h3, rows_new h4 (fun g hg => (h1.base_ (.inr (.inr (.inr hg)))).2) h6.size hb ho, rows_new h5 (fun g hg => (h2.base_ (.inr (.inr (.inr hg)))).2) h6.size hb ho, h6.trans (hb.mono h6.size), h7⟩
theorem J2.after {L L' : DL} {s s' : DS} {cb1 cb2 : Nat} {v1 v2 v1' : Value} {l1' : List ByteArray} (h1 : JC w w0.heap.size jk1 b cb1 L s jb1 v1 l1 N) (h2 : JC w w0.heap.size jk2 b cb2 L s jb2 v2 l2 N) (h3 : ∀ k, OB cb1 jk1 v1 k → ¬ OB cb2 jk2 v2 k) (h4 : Rows w w0.heap.size v1 rows) (h5 : Rows w w0.heap.size v2 rows) (h6 : Below w0.heap.size w0 w) (h7 : Far jb1 jb2 ∧ 0 ≤ jb1 ∧ jb1 ≤ 14)
    (hr : JC w' w0.heap.size jk1 b cb1 L' s' jb1 v1' l1' N') (hC : Chg w w' (JF b cb1 jk1 L v1)) (hlv : ∀ k, v1'.ownBlock = some k → v1.ownBlock = some k ∨ w.heap.size ≤ k) (hfl : ∀ g, g ≠ jb1 → g ≠ jb1 + 1 → s'.fl g = s.fl g) : J2 w0 w' b jb1 jb2 jk1 jk2 l1' l2 N' rows := by
  obtain ⟨sl1, cv1, u1, hM1, hG1, hc1⟩ := h1
  obtain ⟨sl2, cv2, u2, hM2, hG2, hc2⟩ := h2
  obtain ⟨sl3, cv3, u3, hM3, hG3, hc3⟩ := hr
  have hOB2 : ∀ k, OB cb2 jk2 v2 k → ¬ JF b cb1 jk1 L v1 k := by
    rintro k hk (e | e)
    · obtain ⟨a1, a2, a3⟩ := hM2.apart k e
      rcases hk with rfl | rfl | hk
      · exact a1 rfl
      · exact a2 rfl
      · exact a3 hk
    · exact h3 k e hk
  refine ⟨L', s', cb1, cb2, v1', v2, ⟨sl3, cv3, u3, hM3, hG3, hc3⟩, ⟨sl2, cv2, u2, ⟨hM3.H, hC.blk hM2.X (hOB2 _ (.inl rfl)), hC.blk hM2.J (hOB2 _ (.inr (.inl rfl))), hM2.l.kept (fun g cs hg hb => hC.blk hb (hOB2 g (.inr (.inr hg)))), hM2.hj, hM2.hc, hM3.E⟩, ?_, hc3⟩, ?_, hM1.rws h4 hC hlv, ?_, hC.low h6 (fun k hk => (hM1.base_ hk).1), h7⟩
  · obtain ⟨⟨f1, f2, f3, f4⟩, _⟩ := h7
    exact hG2.of_fl hc3.2.2 (hfl _ f1 f2) (hfl _ f3 f4)
  · rintro k hk hk2
    rcases hk with e | e | e
    · exact h3 k (.inl e) hk2
    · exact h3 k (.inr (.inl e)) hk2
    · rcases hlv k e with e | e
      · exact h3 k (.inr (.inr e)) hk2
      · have : k < w.heap.size := by
          rcases hk2 with rfl | rfl | hk2
          · exact hM2.X.lt
          · exact hM2.J.lt
          · exact (hM2.l.blk hk2).2.1
        omega
  · intro r hm
    obtain ⟨a1, a2⟩ := h5 r hm
    refine ⟨own_kept a1 (fun g cs hg hb => hC.blk hb (hM1.str_apart hb ((h4 r hm).2 g hg))), a2⟩
end
theorem j2_app {w0 w : World} {b : Nat} {jb1 jb2 : Int} {jk1 jk2 : Nat} {l1 l2 : List ByteArray} {N : Nat} {rows : Rws} (h : J2 w0 w b jb1 jb2 jk1 jk2 l1 l2 N rows) (A : Option Addr) (c : Nat) (ys : List ByteArray) (hs : SlR w w.heap.size A ys) (hA : ∀ ad, A = some ad → 0 < ys.length → ad.block < w0.heap.size ∨ ∃ r ∈ rows, r.1.ownBlock = some ad.block) (hl : Bd 1000 l1) (hy : Bd 8 ys) (hN : N ≤ 40000000) :
    Calls Tryd.prog 20 #[.pointer (some ⟨jk1, 0, none⟩), .slice A ys.length c] w fun e w' => e = .returned (.int .i64 0) ∧ J2 w0 w' b jb1 jb2 jk1 jk2 (l1 ++ ys) l2 (N + 4000) rows := by
  obtain ⟨L, s, cb1, cb2, v1, v2, h1, h2, h3, h4, h5, h6, h7⟩ := h
  have f2 := hy.form
  refine (capp_any _ jk1 b cb1 L s jb1 v1 l1 N A c ys w h1 h7.2 hs (fun ad e h0 hf => ?_) hl (hy.mono (by omega)) (by omega) h6.size).mono ?_
  · rcases hA ad e h0 with hlt | ⟨r, hr, hg⟩
    · have := (h1.base_ hf).1; omega
    · obtain ⟨_, _, _, hM, _⟩ := h1
      obtain ⟨_, cs, hb⟩ := own_blk (h4 r hr).1 _ hg
      exact hM.str_apart hb ((h4 r hr).2 _ hg) hf
  rintro e w' ⟨L', s', v', rfl, hJ, hC, -, hlv, hfl⟩
  exact ⟨rfl, J2.after h1 h2 h3 h4 h5 h6 h7 (hJ.mono (by omega)) hC hlv hfl⟩
theorem j2_cut {w0 w : World} {b : Nat} {jb1 jb2 : Int} {jk1 jk2 : Nat} {l1 l2 : List ByteArray} {N : Nat} {rows : Rws} (h : J2 w0 w b jb1 jb2 jk1 jk2 l1 l2 N rows) (n : Int) (hn : I64 n) (hl : Bd 1000 l1) (hN : N ≤ 40000000) :
    Calls Tryd.prog 21 #[.pointer (some ⟨jk1, 0, none⟩), .int .i64 n] w fun e w' => e = .returned (.int .i64 (if 0 ≤ n ∧ n ≤ (l1.length : Int) then 0 else 1)) ∧ J2 w0 w' b jb1 jb2 jk1 jk2 (if 0 ≤ n ∧ n ≤ (l1.length : Int) then l1.take n.toNat else l1) l2 (N + 4000) rows := by
  obtain ⟨L, s, cb1, cb2, v1, v2, h1, h2, h3, h4, h5, h6, h7⟩ := h
  refine (ccut_any _ jk1 b cb1 L s jb1 v1 l1 N n w h1 h7.2 hn hl (by omega) h6.size).mono ?_
  rintro e w' ⟨L', s', v', rfl, hJ, hC, -, hlv, hfl⟩
  exact ⟨rfl, J2.after h1 h2 h3 h4 h5 h6 h7 (hJ.mono (by omega)) hC hlv hfl⟩
/-- A string that is too long. -/
theorem j2_full {w0 w : World} {b : Nat} {jb1 jb2 : Int} {jk1 jk2 : Nat} {l1 l2 : List ByteArray} {N : Nat} {rows : Rws} (h : J2 w0 w b jb1 jb2 jk1 jk2 l1 l2 N rows) (A : Option Addr) (c : Nat) (x : ByteArray) (hs : SlR w w.heap.size A [x]) (hA : ∀ ad, A = some ad → ad.block < w0.heap.size ∨ ∃ r ∈ rows, r.1.ownBlock = some ad.block) (hl : Bd 1000 l1) (hx : x.size = 1048576) (hN : N ≤ 30000000) :
    Calls Tryd.prog 20 #[.pointer (some ⟨jk1, 0, none⟩), .slice A ([x] : List ByteArray).length c] w fun e w' => e = .returned (.int .i64 6) ∧ J2 w0 w' b jb1 jb2 jk1 jk2 l1 l2 (N + 7000000) rows := by
  obtain ⟨L, s, cb1, cb2, v1, v2, h1, h2, h3, h4, h5, h6, h7⟩ := h
  have hh1 := h1
  obtain ⟨slot, cv, u, hM, hG, hc⟩ := h1
  have f1 := hl.form
  have f2 : (formB [x]).length ≤ 3000000 := Nat.le_trans (form_len 1048576 (by omega) [x] (fun y hy => by rw [List.mem_singleton] at hy; rw [hy, hx]; exact Nat.le_refl _)) (by simp)
  have f3 : 1048576 < (formB [x]).length := by
    have e1 : formB [x] = encT x.data.toList := by simp [formB]
    rw [e1]
    simp only [encT, List.length_append, List.length_cons, List.length_nil, ← size_list]
    omega
  refine (append_any _ jk1 b cb1 L s jb1 v1 l1 slot cv u false N A c [x] w hM (fun _ => hG) h7.2 hs (fun ad e h0 hf => ?_) (fun y hy => by rw [List.mem_singleton] at hy; rw [hy]; omega) f2 (by omega) (by simp) (by have := hl.1; omega) (by omega) h6.size).mono ?_
  · rcases hA ad e with hlt | ⟨r, hr, hg⟩
    · have := (hh1.base_ hf).1; omega
    · obtain ⟨_, cs, hb⟩ := own_blk (h4 r hr).1 _ hg
      exact hM.str_apart hb ((h4 r hr).2 _ hg) hf
  rintro e w' ⟨ec, L', s', v', l', slot', cv', u', br', rfl, hst, hR⟩
  rcases hst with ⟨h, _⟩ | ⟨-, h, _⟩ | ⟨-, -, _, rfl, rfl, rfl, rfl, rfl, rfl⟩ | ⟨-, -, h, _⟩
  · cases h
  · cases h
  · exact ⟨rfl, J2.after hh1 h2 h3 h4 h5 h6 h7 ⟨_, _, _, hR.M.mono (by omega), hG, hc⟩ hR.C hR.lv (fun _ _ _ => rfl)⟩
  · omega
/-- Open leaves a good journal good. -/
theorem JGood.shr_ {s s' : DS} {jb : Int} {l : List ByteArray} {slot : Nat} {cv : Bs} (h : JGood s jb l slot cv) (hs : Shr s s') (hf : ∀ f, (s'.fl f).1 = (s.fl f).1) (hd : s'.down = false) : JGood s' jb l slot cv := by
  have hdur : ∀ f, (s.fl f).2 = (s.fl f).1 → (s'.fl f).2 = (s'.fl f).1 := fun f h2 => by
    have := poss_dur h2 (hs f _ (.inr (Mix.refl (s'.fl f).2 (s'.fl f).1)))
    rw [this, hf]
  exact ⟨hd, hdur _ h.d1, hdur _ h.d2, by rw [hf]; exact h.cell, by rw [hf]; exact h.log⟩
end Go.Proofs.YtbefmjodpndndaaDoor
