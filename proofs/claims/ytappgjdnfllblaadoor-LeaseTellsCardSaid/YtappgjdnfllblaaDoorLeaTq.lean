
/- Lease: LeaseTells: both desks in memory, the words of its walk. -/
import Derived.Test.YtappgjdnfllblaaDoorLrG
import Derived.Test.YtappgjdnfllblaaDoorLrH
import Derived.Test.YtappgjdnfllblaaDoorLrE
set_option linter.unusedSimpArgs false
set_option linter.unusedVariables false
namespace Go.Proofs.YtappgjdnfllblaaDoor
open Go.RowKit Go.IntWalk Go.Maps Go.WideMaps
/-- The desk and the reference's, the call's box, the two notes' boxes. -/
structure TS (w0 w : World) (base b : Nat) (v : Value) (mh mg rbase rb : Nat) (rv : Value) (dd dr : LDk) (gq ga gb : Nat) (o na nb : Array Value) : Prop where
  D : Ld w base b v mh mg dd
  R : RLd w rbase rb rv dr
  Q : Blk w gq 41 o
  A : Blk w ga 26 na
  N : Blk w gb 26 nb
  B : Below w0.heap.size w0 w
  hb : w0.heap.size ≤ base
  hr : w0.heap.size ≤ rbase
  ha : w0.heap.size ≤ ga
  hn : w0.heap.size ≤ gb
  ne : ga ≠ gb
theorem upToP_I (p : Int → Bool) : ∀ (N : Nat), N ≤ 64 → ∀ x ∈ upToP p N, I64 x := by
  intro N
  induction N with
  | zero => intro _ x hx; simp [upToP] at hx
  | succ N ih =>
    intro hN x hx
    unfold upToP at hx
    rcases List.mem_append.1 hx with hx | hx
    · exact ih (by omega) x hx
    · split at hx
      · rw [List.mem_singleton.1 hx]; constructor <;> omega
      · cases hx
theorem OwnI.slr' {w : World} {base : Nat} {A : Option Addr} {c : Nat} {p : Int → Bool} {N : Nat} (h : OwnI w base (.slice A (upToP p N).length c) (upToP p N)) (hN : N ≤ 64) : SlR w w.heap.size A (upToP p N) := by
  obtain ⟨A', c', e, -, -, hs⟩ := h.slr (upToP_I p N hN)
  injection e with e1 e2 e3
  subst e1
  exact hs
theorem calls_bel {f : FuncId} {args : Array Value} {w : World} {v : Value} (hc : Calls Tryd.prog f args w fun e w' => e = .returned v ∧ w = w') : Calls Tryd.prog f args w fun e w' => e = .returned v ∧ Below w.heap.size w w' :=
  hc.mono fun e w' ⟨h1, h2⟩ => ⟨h1, by subst h2; exact Below.refl _ _⟩
theorem calls_list {f : FuncId} {args : Array Value} {w : World} {p : Int → Bool} {N : Nat} (hN : N ≤ 64) (hc : Calls Tryd.prog f args w fun e w' => ∃ A c, e = .returned (.slice A (upToP p N).length c) ∧ OwnI w' w.heap.size (.slice A (upToP p N).length c) (upToP p N) ∧ Below w.heap.size w w') :
    Calls Tryd.prog f args w fun e w' => ∃ u, e = .returned u ∧ ∃ A c, u = .slice A (upToP p N).length c ∧ SlR w' w'.heap.size A (upToP p N) ∧ Below w.heap.size w w' :=
  hc.mono fun e w' ⟨A, c, h1, h2, h3⟩ => ⟨_, h1, A, c, rfl, h2.slr' hN, h3⟩
section
variable {w0 w w' : World} {base b : Nat} {v : Value} {mh mg rbase rb : Nat} {rv : Value} {dd dr d1 : LDk} {gq ga gb : Nat} {o na nb : Array Value} {x : Value} {e : Ending}
theorem TS.below (h : TS w0 w base b v mh mg rbase rb rv dd dr gq ga gb o na nb) (hb : Below w.heap.size w w') : TS w0 w' base b v mh mg rbase rb rv dd dr gq ga gb o na nb :=
  ⟨h.D.below hb, h.R.below hb, h.Q.below hb h.Q.lt, h.A.below hb h.A.lt, h.N.below hb h.N.lt, h.B.trans (hb.mono h.B.size), h.hb, h.hr, h.ha, h.hn, h.ne⟩
theorem TS.actD (h : TS w0 w base b v mh mg rbase rb rv dd dr gq ga gb o na nb) (hr : LRes w base b v mh mg x d1 e w') : e = .returned x ∧ TS w0 w' base b v mh mg rbase rb rv d1 dr gq ga gb o na nb := by
  obtain ⟨he, hd, q, hq, hg⟩ := hr
  have q2 : base ≤ q := by rcases hq with rfl | rfl; exact h.D.ha; exact h.D.ga
  have hap : ∀ {g : Nat} {t : TypeId} {cs : Array Value}, Blk w g t cs → g ≠ q := fun hb => by
    rcases hq with rfl | rfl
    · exact h.D.h.apart hb
    · exact h.D.g.apart hb
  refine ⟨he, hd, h.R.grown hg ?_ (fun e => hap h.R.k (by injection e)), h.Q.grown hg (fun e => hap h.Q (by injection e)), h.A.grown hg (fun e => hap h.A (by injection e)), h.N.grown hg (fun e => hap h.N (by injection e)), bg h.B hg (Nat.le_trans h.hb q2), h.hb, h.hr, h.ha, h.hn, h.ne⟩
  cases hv : rv.ownBlock with
  | none => exact .inl rfl
  | some g =>
    obtain ⟨-, cs, hb⟩ := own_blk h.R.r g hv
    exact .inr (fun e => hap hb (by injection e))
theorem TS.actR (h : TS w0 w base b v mh mg rbase rb rv dd dr gq ga gb o na nb) (hr : RLRes w rbase rb rv x d1 e w') : e = .returned x ∧ TS w0 w' base b v mh mg rbase rb rv dd d1 gq ga gb o na nb := by
  obtain ⟨he, hd, hg⟩ := hr
  cases hv : rv.ownBlock with
  | none =>
    rw [hv] at hg
    have hb : Below w.heap.size w w' := (Below.refl _ _).grown hg (Nat.le_refl _) (fun k e => by cases e)
    exact ⟨he, h.D.below hb, hd, h.Q.below hb h.Q.lt, h.A.below hb h.A.lt, h.N.below hb h.N.lt, h.B.trans (hb.mono h.B.size), h.hb, h.hr, h.ha, h.hn, h.ne⟩
  | some g =>
    rw [hv] at hg
    obtain ⟨hgb, cs, hb⟩ := own_blk h.R.r g hv
    refine ⟨he, h.D.kept hg (fun e => Blk.ne_ h.D.k hb (by decide) e) (fun e => h.D.h.apart hb e.symm) (fun e => h.D.g.apart hb e.symm) (fun k hk e => ?_), hd, h.Q.grown hg (fun e => Blk.ne_ h.Q hb (by decide) (by injection e)), h.A.grown hg (fun e => Blk.ne_ h.A hb (by decide) (by injection e)), h.N.grown hg (fun e => Blk.ne_ h.N hb (by decide) (by injection e)), bg h.B hg (Nat.le_trans h.hr hgb), h.hb, h.hr, h.ha, h.hn, h.ne⟩
    obtain ⟨-, cs2, hb2⟩ := own_blk h.D.r k hk
    exact Blk.ne_ hb2 hb (by decide) e
theorem Ld.note (h : Ld w base b v mh mg dd) {gn : Nat} {cs : Array Value} (N : Blk w gn 26 cs) (hg : w.grownBy w' (some gn)) : Ld w' base b v mh mg dd :=
  h.kept hg (fun e => Blk.ne_ h.k N (by decide) e) (fun e => h.h.apart N e.symm) (fun e => h.g.apart N e.symm) (fun k hk e => by obtain ⟨-, cs2, hb2⟩ := own_blk h.r k hk; exact Blk.ne_ hb2 N (by decide) e)
theorem TS.setA (h : TS w0 w base b v mh mg rbase rb rv dd dr gq ga gb o na nb) (hs : na.size = 4) (x0 x1 x2 x3 : Value) :
    TS w0 ((((w.setCell ⟨ga, 0, none⟩ x0).setCell ⟨ga, 1, none⟩ x1).setCell ⟨ga, 2, none⟩ x2).setCell ⟨ga, 3, none⟩ x3) base b v mh mg rbase rb rv dd dr gq ga gb o #[x0, x1, x2, x3] nb := by
  obtain ⟨h1, h2⟩ := note4 h.A hs x0 x1 x2 x3
  exact ⟨h.D.note h.A h2, h.R.note h.A h2, h.Q.grown h2 (fun e => Blk.ne_ h.Q h.A (by decide) (by injection e)), h1, h.N.grown h2 (fun e => h.ne (by injection e with e; exact e.symm)), bg h.B h2 h.ha, h.hb, h.hr, h.ha, h.hn, h.ne⟩
theorem TS.setN (h : TS w0 w base b v mh mg rbase rb rv dd dr gq ga gb o na nb) (hs : nb.size = 4) (x0 x1 x2 x3 : Value) :
    TS w0 ((((w.setCell ⟨gb, 0, none⟩ x0).setCell ⟨gb, 1, none⟩ x1).setCell ⟨gb, 2, none⟩ x2).setCell ⟨gb, 3, none⟩ x3) base b v mh mg rbase rb rv dd dr gq ga gb o na #[x0, x1, x2, x3] := by
  obtain ⟨h1, h2⟩ := note4 h.N hs x0 x1 x2 x3
  exact ⟨h.D.note h.N h2, h.R.note h.N h2, h.Q.grown h2 (fun e => Blk.ne_ h.Q h.N (by decide) (by injection e)), h.A.grown h2 (fun e => h.ne (by injection e)), h1, bg h.B h2 h.hn, h.hb, h.hr, h.ha, h.hn, h.ne⟩
theorem TS.newD (h : TS w0 w base b v mh mg rbase rb rv dd dr gq ga gb o na nb) {b' : Nat} {v' : Value} {mh' mg' : Nat} {d' : LDk} (hd : Ld w' w.heap.size b' v' mh' mg' d') (hb : Below w.heap.size w w') : TS w0 w' w.heap.size b' v' mh' mg' rbase rb rv d' dr gq ga gb o na nb :=
  ⟨hd, h.R.below hb, h.Q.below hb h.Q.lt, h.A.below hb h.A.lt, h.N.below hb h.N.lt, h.B.trans (hb.mono h.B.size), h.B.size, h.hr, h.ha, h.hn, h.ne⟩
/-- What the switch leaves. -/
def CutL (w0 : World) (rbase rb : Nat) (rv : Value) (M : Int) (gq ga gb : Nat) (o : Array Value) (pd e1 e2 : Value) (wx : World) : Prop :=
  ∃ (base b : Nat) (v : Value) (mh mg : Nat) (d : LDk) (n : P4) (er : Int), pd = .pointer (some ⟨b, 0, none⟩) ∧ e1 = .int .i64 er ∧ e2 = .int .i64 er ∧ OkI d M ∧
    TS w0 wx base b v mh mg rbase rb rv d d gq ga gb o #[.int .i64 n.1, .int .i64 n.2.1, .int .i64 n.2.2.1, .int .i64 n.2.2.2] #[.int .i64 n.1, .int .i64 n.2.1, .int .i64 n.2.2.1, .int .i64 n.2.2.2]
end
end Go.Proofs.YtappgjdnfllblaaDoor
