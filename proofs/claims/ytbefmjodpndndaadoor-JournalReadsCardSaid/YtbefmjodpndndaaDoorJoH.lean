
/- Journal: rows of strings beside a journal, appended to. -/
import Derived.Test.YtbefmjodpndndaaDoorJoG
set_option linter.unusedSimpArgs false
set_option linter.unusedVariables false
namespace Go.Proofs.YtbefmjodpndndaaDoor
open Go.RowKit Go.IntWalk

/-- The disk. -/
structure JI (w0 w : World) (b : Nat) (L : DL) (s : DS) (jb : Int) (Ls : List ByteArray → Prop) (N : Nat) : Prop where
  D : Dsk w w0.heap.size b L s N
  B : Below w0.heap.size w0 w
  E : EB w0.heap.size w
  S : Safe s jb Ls
abbrev Rws := List (Value × List ByteArray)
/-- Rows of strings that the journal's own list does not touch. -/
def Rows (w : World) (base : Nat) (v : Value) (rows : Rws) : Prop := ∀ r ∈ rows, strRK.Own w base r.1 r.2 ∧ ∀ g, r.1.ownBlock = some g → v.ownBlock ≠ some g
def nilS : Value := .slice none 0 0
theorem nilS_own (g : Nat) : nilS.ownBlock ≠ some g := by simp [nilS, Value.ownBlock]
/-- The journal: none, or one that is broken or good. -/
def JP (w0 w : World) (b : Nat) (L : DL) (s : DS) (jb : Int) (Q : List ByteArray → Prop) (N : Nat) (rows : Rws) (jv : Value) : Prop :=
  (jv = .pointer none ∧ Rows w w0.heap.size nilS rows) ∨
  ∃ (jk cb : Nat) (v : Value) (l : List ByteArray) (slot : Nat) (cv : Bs) (u br : Bool), jv = .pointer (some ⟨jk, 0, none⟩) ∧ JM w w0.heap.size jk b cb L s jb v l slot cv u br N ∧ Q l ∧ (br = false → JGood s jb l slot cv) ∧ Rows w w0.heap.size v rows
def JQ (w0 w : World) (b : Nat) (jb : Int) (Ls Q : List ByteArray → Prop) (N : Nat) (rows : Rws) (jv : Value) : Prop := ∃ L s, JI w0 w b L s jb Ls N ∧ JP w0 w b L s jb Q N rows jv
section
variable {w0 w w' : World} {b : Nat} {L L' : DL} {s s' : DS} {jb : Int} {Ls Q : List ByteArray → Prop} {N : Nat} {rows : Rws} {jv v v' : Value}
theorem Rows.below {base : Nat} (h : Rows w base v rows) (hb : Below w.heap.size w w') : Rows w' base v rows := fun r hr => ⟨(h r hr).1.below hb, (h r hr).2⟩
theorem Rows.nilv {base : Nat} (h : Rows w base v rows) : Rows w base nilS rows := fun r hr => ⟨(h r hr).1, fun g _ => nilS_own g⟩
theorem JM.str_apart {jk cb slot : Nat} {l : List ByteArray} {cv : Bs} {u br : Bool} {base : Nat} (h : JM w base jk b cb L s jb v l slot cv u br N) {g : Nat} {cs : Array Value} (hb : Blk w g 9 cs) (hv : v.ownBlock ≠ some g) : ¬ JF b cb jk L v g := by
  rintro (h1 | rfl | rfl | h1)
  · exact h.H.ne_blk hb (by decide) (by decide) (by decide) _ h1 rfl
  · exact hb.ne_ h.X (by decide) rfl
  · exact hb.ne_ h.J (by decide) rfl
  · exact hv h1
theorem JM.op_apart {jk cb slot : Nat} {l : List ByteArray} {cv : Bs} {u br : Bool} {base : Nat} (h : JM w base jk b cb L s jb v l slot cv u br N) {g : Nat} {cs : Array Value} (hb : Blk w g 49 cs) : ¬ JF b cb jk L v g := by
  rintro (h1 | rfl | rfl | h1)
  · exact h.H.ne_blk hb (by decide) (by decide) (by decide) _ h1 rfl
  · exact hb.ne_ h.X (by decide) rfl
  · exact hb.ne_ h.J (by decide) rfl
  · obtain ⟨_, _, cs2, hb2⟩ := h.l.blk h1
    exact hb.ne_ hb2 (by decide) rfl
/-- Rows behind a call on the journal. -/
theorem JM.rws {jk cb slot : Nat} {l : List ByteArray} {cv : Bs} {u br : Bool} {base : Nat} (h : JM w base jk b cb L s jb v l slot cv u br N) (hr : Rows w base v rows) (hc : Chg w w' (JF b cb jk L v)) (hl : ∀ k, v'.ownBlock = some k → v.ownBlock = some k ∨ w.heap.size ≤ k) : Rows w' base v' rows := by
  intro r hm
  obtain ⟨h1, h2⟩ := hr r hm
  refine ⟨own_kept h1 (fun g cs hg hb => hc.blk hb (h.str_apart hb (h2 g hg))), fun g hg e => ?_⟩
  have hlt := (World.ownsRow.lt h1 g hg).2
  rcases hl g e with h3 | h3
  · exact h2 g hg h3
  · omega
theorem JM.kt {jk cb slot : Nat} {l : List ByteArray} {cv : Bs} {u br : Bool} {base : Nat} (h : JM w base jk b cb L s jb v l slot cv u br N) (hc : Chg w w' (JF b cb jk L v)) : KT [49] w w' := by
  intro g t cs ht hb
  simp at ht
  subst ht
  exact hc.blk hb (h.op_apart hb)
/-- .. behind a call on the disk alone. -/
theorem Dsk.rws {base : Nat} (h : Dsk w base b L s N) (hr : Rows w base v rows) (hc : Chg w w' (DFP b L)) : Rows w' base v rows := by
  intro r hm
  obtain ⟨h1, h2⟩ := hr r hm
  exact ⟨own_kept h1 (fun g cs hg hb => hc.blk hb (fun e => h.ne_blk hb (by decide) (by decide) (by decide) _ e rfl)), h2⟩
theorem Dsk.kt {base : Nat} (h : Dsk w base b L s N) (hc : Chg w w' (DFP b L)) : KT [49] w w' := by
  intro g t cs ht hb
  simp at ht
  subst ht
  exact hc.blk hb (fun e => h.ne_blk hb (by decide) (by decide) (by decide) _ e rfl)
theorem JI.base_ (h : JI w0 w b L s jb Ls N) : w0.heap.size ≤ w.heap.size := h.B.size
theorem JI.below (h : JI w0 w b L s jb Ls N) (hb : Below w.heap.size w w') : JI w0 w' b L s jb Ls N := ⟨h.D.below hb, h.B.trans (hb.mono h.B.size), h.E.below hb, h.S⟩
theorem JP.below (h : JP w0 w b L s jb Q N rows jv) (hb : Below w.heap.size w w') : JP w0 w' b L s jb Q N rows jv := by
  rcases h with ⟨h1, h2⟩ | ⟨jk, cb, v, l, slot, cv, u, br, h1, h2, h3, h4, h5⟩
  · exact .inl ⟨h1, h2.below hb⟩
  · exact .inr ⟨jk, cb, v, l, slot, cv, u, br, h1, h2.below hb, h3, h4, h5.below hb⟩
theorem JQ.below (h : JQ w0 w b jb Ls Q N rows jv) (hb : Below w.heap.size w w') : JQ w0 w' b jb Ls Q N rows jv := by
  obtain ⟨L, s, h1, h2⟩ := h
  exact ⟨L, s, h1.below hb, h2.below hb⟩
theorem JQ.low (h : JQ w0 w b jb Ls Q N rows jv) : Below w0.heap.size w0 w := by
  obtain ⟨L, s, h1, h2⟩ := h
  exact h1.B
theorem JQ.mono {N' : Nat} {Ls' Q' : List ByteArray → Prop} (h : JQ w0 w b jb Ls Q N rows jv) (hN : N ≤ N') (hL : ∀ l, Ls l → Ls' l) (hQ : ∀ l, Q l → Q' l) : JQ w0 w b jb Ls' Q' N' rows jv := by
  obtain ⟨L, s, h1, h2⟩ := h
  refine ⟨L, s, ⟨h1.D.mono hN, h1.B, h1.E, h1.S.mono hL⟩, ?_⟩
  rcases h2 with h | ⟨jk, cb, v, l, slot, cv, u, br, h1, h2, h3, h4, h5⟩
  · exact .inl h
  · exact .inr ⟨jk, cb, v, l, slot, cv, u, br, h1, h2.mono hN, hQ l h3, h4, h5⟩
/-- A call on the disk that only changes numbers: Lose, Arm. -/
theorem JQ.dsk (hI : JI w0 w b L s jb Ls N) (hP : JP w0 w b L s jb Q N rows jv) (hD : Dsk w' w0.heap.size b L' s' N) (hC : Chg w w' (DFP b L)) (hfl : s'.fl = s.fl) (hdn : s'.down = s.down) : JQ w0 w' b jb Ls Q N rows jv := by
  refine ⟨L', s', ⟨hD, hC.low hI.B (fun k hk => (hI.D.lt hk).1), hI.E.dsk hI.D hC, hI.S.shr (Shr.of_fl hfl)⟩, ?_⟩
  rcases hP with ⟨h1, h2⟩ | ⟨jk, cb, v, l, slot, cv, u, br, h1, h2, h3, h4, h5⟩
  · exact .inl ⟨h1, hI.D.rws h2 hC⟩
  · exact .inr ⟨jk, cb, v, l, slot, cv, u, br, h1, h2.dsk hD hC, h3, fun e => (h4 e).of_fl (hdn.trans (h4 e).up) (by rw [hfl]) (by rw [hfl]), hI.D.rws h5 hC⟩
end
/-- Lose. -/
theorem jq_lose {w0 w : World} {b : Nat} {jb : Int} {Ls Q : List ByteArray → Prop} {N : Nat} {rows : Rws} {jv : Value} (h : JQ w0 w b jb Ls Q N rows jv) (n : Int) (hn : I64 n) :
    Calls Tryd.prog 24 #[.pointer (some ⟨b, 0, none⟩), .int .i64 n] w fun e w' => e = .returned (.tuple #[]) ∧ JQ w0 w' b jb Ls Q N rows jv ∧ KT [49] w w' := by
  obtain ⟨L, s, h1, h2⟩ := h
  refine (lose_any b _ L s N n hn w h1.D).mono ?_
  rintro e w' ⟨rfl, hD, hC⟩
  exact ⟨rfl, JQ.dsk h1 h2 hD hC rfl rfl, h1.D.kt hC⟩
theorem jq_arm {w0 w : World} {b : Nat} {jb : Int} {Ls Q : List ByteArray → Prop} {N : Nat} {rows : Rws} {jv : Value} (h : JQ w0 w b jb Ls Q N rows jv) (n : Int) (hn : I64 n) (A : Option Addr) (c : Nat) (l : List Int) (hl : l.length ≤ 65536) (hs : SlR w w.heap.size A l) :
    Calls Tryd.prog 27 #[.pointer (some ⟨b, 0, none⟩), .int .i64 n, .slice A l.length c] w fun e w' => e = .returned (.tuple #[]) ∧ JQ w0 w' b jb Ls Q N rows jv ∧ KT [49] w w' := by
  obtain ⟨L, s, h1, h2⟩ := h
  refine (arm_any b _ L s N n A c l w h1.D hn hl hs h1.base_).mono ?_
  rintro e w' ⟨L', s', ⟨rfl, rfl⟩, hD, hC, -⟩
  exact ⟨rfl, JQ.dsk h1 h2 hD hC rfl rfl, h1.D.kt hC⟩
/-- A disk alone, and rows. -/
def JD (w0 w : World) (b : Nat) (jb : Int) (Ls : List ByteArray → Prop) (N : Nat) (rows : Rws) (P : DS → Prop) : Prop := ∃ L s, JI w0 w b L s jb Ls N ∧ Rows w w0.heap.size nilS rows ∧ P s
theorem JQ.disk {w0 w : World} {b : Nat} {jb : Int} {Ls Q : List ByteArray → Prop} {N : Nat} {rows : Rws} {jv : Value} (h : JQ w0 w b jb Ls Q N rows jv) : JD w0 w b jb Ls N rows (fun _ => True) := by
  obtain ⟨L, s, h1, h2⟩ := h
  refine ⟨L, s, h1, ?_, trivial⟩
  rcases h2 with ⟨_, h2⟩ | ⟨_, _, _, _, _, _, _, _, _, _, _, _, h5⟩
  · exact h2
  · exact h5.nilv
theorem JD.low {w0 w : World} {b : Nat} {jb : Int} {Ls : List ByteArray → Prop} {N : Nat} {rows : Rws} {P : DS → Prop} (h : JD w0 w b jb Ls N rows P) : Below w0.heap.size w0 w := by
  obtain ⟨L, s, h1, _⟩ := h
  exact h1.B
theorem keep_low {w0 w : World} {A : Option Addr} {l : List Int} {b mf : Nat} (hs : SlR w0 w0.heap.size A l) (hB : Below w0.heap.size w0 w) (h1 : w0.heap.size ≤ b) (h2 : w0.heap.size ≤ mf) : KeepAt w b mf A l := by
  intro k hk
  obtain ⟨g, off, rfl, hg, hc, -⟩ := hs.int hk
  exact ⟨g, off, rfl, by omega, by omega, Nat.lt_of_lt_of_le hg hB.size, (bcell hB g _ hg).trans hc⟩
theorem jd_lose {w0 w : World} {b : Nat} {jb : Int} {Ls : List ByteArray → Prop} {N : Nat} {rows : Rws} {P P' : DS → Prop} (h : JD w0 w b jb Ls N rows P) (n : Int) (hn : I64 n) (hP : ∀ s, P s → P' { s with lost := max n 0 }) :
    Calls Tryd.prog 24 #[.pointer (some ⟨b, 0, none⟩), .int .i64 n] w fun e w' => e = .returned (.tuple #[]) ∧ JD w0 w' b jb Ls N rows P' ∧ KT [49] w w' := by
  obtain ⟨L, s, h1, h2, h3⟩ := h
  refine (lose_any b _ L s N n hn w h1.D).mono ?_
  rintro e w' ⟨rfl, hD, hC⟩
  exact ⟨rfl, ⟨L, _, ⟨hD, hC.low h1.B (fun k hk => (h1.D.lt hk).1), h1.E.dsk h1.D hC, h1.S.shr (Shr.of_fl rfl)⟩, h1.D.rws h2 hC, hP s h3⟩, h1.D.kt hC⟩
theorem jd_arm {w0 w : World} {b : Nat} {jb : Int} {Ls : List ByteArray → Prop} {N : Nat} {rows : Rws} {P P' : DS → Prop} (h : JD w0 w b jb Ls N rows P) (n : Int) (hn : I64 n) (A : Option Addr) (c : Nat) (l : List Int) (hl : l.length ≤ 65536) (hs : SlR w w.heap.size A l) (hP : ∀ s, P s → P' { s with armed := max n 0 }) :
    Calls Tryd.prog 27 #[.pointer (some ⟨b, 0, none⟩), .int .i64 n, .slice A l.length c] w fun e w' => e = .returned (.tuple #[]) ∧ JD w0 w' b jb Ls N rows P' ∧ KT [49] w w' := by
  obtain ⟨L, s, h1, h2, h3⟩ := h
  refine (arm_any b _ L s N n A c l w h1.D hn hl hs h1.base_).mono ?_
  rintro e w' ⟨L', s', ⟨rfl, rfl⟩, hD, hC, -⟩
  exact ⟨rfl, ⟨L', _, ⟨hD, hC.low h1.B (fun k hk => (h1.D.lt hk).1), h1.E.dsk h1.D hC, h1.S.shr (Shr.of_fl rfl)⟩, h1.D.rws h2 hC, hP s h3⟩, h1.D.kt hC⟩
/-- Crash, of a machine that may be up; the sectors are in the law's own arguments. -/
theorem jd_crash {w0 w : World} {b : Nat} {jb : Int} {Ls : List ByteArray → Prop} {N : Nat} {rows : Rws} {P P' : DS → Prop} (h : JD w0 w b jb Ls N rows P) (A : Option Addr) (c : Nat) (l : List Int) (hl : l.length ≤ 65536) (hs : SlR w0 w0.heap.size A l) (hN : N ≤ 50000000) (hP : ∀ s s', P s → CrashR s s' → P' s') :
    Calls Tryd.prog 25 #[.pointer (some ⟨b, 0, none⟩), .slice A l.length c] w fun e w' => e = .returned (.tuple #[]) ∧ JD w0 w' b jb Ls N rows P' ∧ KT [49] w w' := by
  obtain ⟨L, s, h1, h2, h3⟩ := h
  refine (crash_any b _ L s N A c l w h1.D hl (keep_low hs h1.B h1.D.hb.1 h1.D.hb.2.1) hN h1.base_).mono ?_
  rintro e w' ⟨L', s', ⟨rfl, hcr⟩, hD, hC, -⟩
  exact ⟨rfl, ⟨L', s', ⟨hD, hC.low h1.B (fun k hk => (h1.D.lt hk).1), h1.E.dsk h1.D hC, h1.S.shr (Shr.crash hcr)⟩, h1.D.rws h2 hC, hP s s' h3 hcr⟩, h1.D.kt hC⟩
theorem jd_start {w0 w : World} {b : Nat} {jb : Int} {Ls : List ByteArray → Prop} {N : Nat} {rows : Rws} {P P' : DS → Prop} (h : JD w0 w b jb Ls N rows P) (hP : ∀ s, P s → P' { s with down := false }) :
    Calls Tryd.prog 26 #[.pointer (some ⟨b, 0, none⟩)] w fun e w' => e = .returned (.tuple #[]) ∧ JD w0 w' b jb Ls N rows (fun s => s.down = false ∧ P' s) ∧ KT [49] w w' := by
  obtain ⟨L, s, h1, h2, h3⟩ := h
  refine (start_any b _ L s N w h1.D).mono ?_
  rintro e w' ⟨rfl, hD, hC⟩
  exact ⟨rfl, ⟨L, _, ⟨hD, hC.low h1.B (fun k hk => (h1.D.lt hk).1), h1.E.dsk h1.D hC, h1.S.shr (Shr.of_fl rfl)⟩, h1.D.rws h2 hC, rfl, hP s h3⟩, h1.D.kt hC⟩
/-- A journal just opened. -/
def OpenOK (w0 w' : World) (b : Nat) (jb : Int) (l : List ByteArray) (N : Nat) (rows : Rws) (P : DS → Prop) (jk : Nat) : Prop :=
  ∃ L' s' cb v slot cv, JI w0 w' b L' s' jb (fun x => x = l) N ∧ JM w' w0.heap.size jk b cb L' s' jb v l slot cv false false N ∧ JGood s' jb l slot cv ∧ Rows w' w0.heap.size v rows ∧ ((∀ s, P s → Calm s) → Calm s')
theorem OpenOK.jq {w0 w' : World} {b : Nat} {jb : Int} {l : List ByteArray} {N : Nat} {rows : Rws} {P : DS → Prop} {jk : Nat} (h : OpenOK w0 w' b jb l N rows P jk) : JQ w0 w' b jb (fun x => x = l) (fun x => x = l) N rows (.pointer (some ⟨jk, 0, none⟩)) := by
  obtain ⟨L', s', cb, v, slot, cv, h1, h2, h3, h4, -⟩ := h
  exact ⟨L', s', h1, .inr ⟨jk, cb, v, l, slot, cv, false, false, rfl, h2, rfl, fun _ => h3, h4⟩⟩
/-- Open, on a machine that is up. -/
theorem jd_open {w0 w : World} {b : Nat} {jb : Int} {Ls : List ByteArray → Prop} {N : Nat} {rows : Rws} {P : DS → Prop} (h : JD w0 w b jb Ls N rows P) (hP : ∀ s, P s → s.down = false) (hj0 : 0 ≤ jb) (hj1 : jb ≤ 14) (hLs : ∀ l, Ls l → Bd 10000 l) (hN : N + 2 ≤ 50000000) :
    Calls Tryd.prog 11 #[.pointer (some ⟨b, 0, none⟩), .int .i64 jb] w fun e w' => ∃ (jv : Value) (ec : Int), e = .returned (.tuple #[jv, .int .i64 ec]) ∧ KT [49] w w' ∧
      ((jv = .pointer none ∧ (ec = 9 ∨ ec = 10) ∧ ¬ (∀ s, P s → Calm s) ∧ JQ w0 w' b jb Ls Ls (N + 2) rows jv) ∨
       (∃ jk l, jv = .pointer (some ⟨jk, 0, none⟩) ∧ ec = 0 ∧ Ls l ∧ OpenOK w0 w' b jb l (N + 2) rows P jk)) := by
  obtain ⟨L, s, h1, h2, h3⟩ := h
  refine (jopen_safe b _ L s N jb Ls w h1.D h1.E (hP s h3) hj0 hj1 h1.S hLs hN h1.base_).mono ?_
  rintro e w' ⟨L', s', hD, hC, hlo, hsh, hres⟩
  have hB := hC.low h1.B (fun k hk => (h1.D.lt hk).1)
  have hE := h1.E.dsk h1.D hC
  have hR := h1.D.rws h2 hC
  rcases hres with ⟨ec, he, hnc, rfl⟩ | ⟨jk, cb, lv, l, slot, cv, hl, rfl, a1, a2, a3, hM, hG, hcm, -⟩
  · exact ⟨_, ec, rfl, h1.D.kt hC, .inl ⟨rfl, he, fun hall => hnc (hall s h3), L', s', ⟨hD, hB, hE, h1.S.shr hsh⟩, .inl ⟨rfl, hR⟩⟩⟩
  · refine ⟨_, 0, rfl, h1.D.kt hC, .inr ⟨jk, l, rfl, rfl, hl, L', s', cb, lv, slot, cv, ⟨hD, hB, hE, hG.safe⟩, hM, hG, fun r hr => ⟨(hR r hr).1, fun g hg e => ?_⟩, fun hall => hcm (hall s h3)⟩⟩
    have := a3 g e
    have h4 := (World.ownsRow.lt (h2 r hr).1 g hg).2
    omega
/-- A journal that is good. -/
def JG (w0 w : World) (b : Nat) (jb : Int) (l : List ByteArray) (N : Nat) (rows : Rws) (jk : Nat) (P : DS → Prop) : Prop :=
  ∃ L s cb v slot cv u, JI w0 w b L s jb (fun x => x = l) N ∧ JM w w0.heap.size jk b cb L s jb v l slot cv u false N ∧ JGood s jb l slot cv ∧ Rows w w0.heap.size v rows ∧ P s
theorem OpenOK.jg {w0 w' : World} {b : Nat} {jb : Int} {l : List ByteArray} {N : Nat} {rows : Rws} {P : DS → Prop} {jk : Nat} (h : OpenOK w0 w' b jb l N rows P jk) : JG w0 w' b jb l N rows jk (fun s' => (∀ s, P s → Calm s) → Calm s') := by
  obtain ⟨L', s', cb, v, slot, cv, h1, h2, h3, h4, h5⟩ := h
  exact ⟨L', s', cb, v, slot, cv, false, h1, h2, h3, h4, h5⟩
section
variable {w0 w w' : World} {b : Nat} {jb : Int} {l : List ByteArray} {N : Nat} {rows : Rws} {P P' : DS → Prop} {jk : Nat}
theorem JG.jq (h : JG w0 w b jb l N rows jk P) : JQ w0 w b jb (fun x => x = l) (fun x => x = l) N rows (.pointer (some ⟨jk, 0, none⟩)) := by
  obtain ⟨L', s', cb, v, slot, cv, u, h1, h2, h3, h4, -⟩ := h
  exact ⟨L', s', h1, .inr ⟨jk, cb, v, l, slot, cv, u, false, rfl, h2, rfl, fun _ => h3, h4⟩⟩
theorem JG.disk (h : JG w0 w b jb l N rows jk P) : JD w0 w b jb (fun x => x = l) N rows (fun s => s.down = false ∧ P s) := by
  obtain ⟨L', s', cb, v, slot, cv, u, h1, h2, h3, h4, h5⟩ := h
  exact ⟨L', s', h1, h4.nilv, h3.up, h5⟩
theorem JG.jr (h : JG w0 w b jb l N rows jk P) : ∃ cb v, Jr w w0.heap.size jk b cb jb v l false := by
  obtain ⟨L', s', cb, v, slot, cv, u, h1, h2, h3, h4, h5⟩ := h
  exact ⟨cb, v, h2.J, h2.l⟩
theorem JG.below (h : JG w0 w b jb l N rows jk P) (hb : Below w.heap.size w w') : JG w0 w' b jb l N rows jk P := by
  obtain ⟨L', s', cb, v, slot, cv, u, h1, h2, h3, h4, h5⟩ := h
  exact ⟨L', s', cb, v, slot, cv, u, h1.below hb, h2.below hb, h3, h4.below hb, h5⟩
theorem JG.mono {N' : Nat} (h : JG w0 w b jb l N rows jk P) (hN : N ≤ N') (hP : ∀ s, P s → P' s) : JG w0 w b jb l N' rows jk P' := by
  obtain ⟨L', s', cb, v, slot, cv, u, h1, h2, h3, h4, h5⟩ := h
  exact ⟨L', s', cb, v, slot, cv, u, ⟨h1.D.mono hN, h1.B, h1.E, h1.S⟩, h2.mono hN, h3, h4, hP _ h5⟩
theorem JG.low (h : JG w0 w b jb l N rows jk P) : Below w0.heap.size w0 w := h.jq.low
theorem JG.rows_ (h : JG w0 w b jb l N rows jk P) : ∀ r ∈ rows, strRK.Own w w0.heap.size r.1 r.2 := by
  obtain ⟨L', s', cb, v, slot, cv, u, h1, h2, h3, h4, h5⟩ := h
  exact fun r hr => (h4 r hr).1
/-- A row more, just made. -/
theorem JG.row (h : JG w0 w b jb l N rows jk P) (hb : Below w.heap.size w w') {rv : Value} {rl : List ByteArray} (ho : strRK.Own w' w.heap.size rv rl) : JG w0 w' b jb l N ((rv, rl) :: rows) jk P := by
  obtain ⟨L', s', cb, v, slot, cv, u, h1, h2, h3, h4, h5⟩ := h
  refine ⟨L', s', cb, v, slot, cv, u, h1.below hb, h2.below hb, h3, fun r hr => ?_, h5⟩
  rcases List.mem_cons.1 hr with rfl | hr
  · refine ⟨ho.base_ h1.base_, fun g hg e => ?_⟩
    have := (World.ownsRow.lt ho g hg).1
    have := (h2.l.blk e).2.1
    omega
  · exact h4.below hb r hr
end
theorem JQ.row {w0 w w' : World} {b : Nat} {jb : Int} {Ls Q : List ByteArray → Prop} {N : Nat} {rows : Rws} {jv : Value} (h : JQ w0 w b jb Ls Q N rows jv) (hb : Below w.heap.size w w') {rv : Value} {rl : List ByteArray} (ho : strRK.Own w' w.heap.size rv rl) : JQ w0 w' b jb Ls Q N ((rv, rl) :: rows) jv := by
  obtain ⟨L, s, h1, h2⟩ := h
  refine ⟨L, s, h1.below hb, ?_⟩
  rcases h2 with ⟨h3, h4⟩ | ⟨jk, cb, v, l, slot, cv, u, br, h3, h4, h5, h6, h7⟩
  · refine .inl ⟨h3, fun r hr => ?_⟩
    rcases List.mem_cons.1 hr with rfl | hr
    · exact ⟨ho.base_ h1.base_, fun g _ => nilS_own g⟩
    · exact h4.below hb r hr
  · refine .inr ⟨jk, cb, v, l, slot, cv, u, br, h3, h4.below hb, h5, h6, fun r hr => ?_⟩
    rcases List.mem_cons.1 hr with rfl | hr
    · refine ⟨ho.base_ h1.base_, fun g hg e => ?_⟩
      have := (World.ownsRow.lt ho g hg).1
      have := (h4.l.blk e).2.1
      omega
    · exact h7.below hb r hr
theorem JQ.sub {w0 w : World} {b : Nat} {jb : Int} {Ls Q : List ByteArray → Prop} {N : Nat} {rows rows' : Rws} {jv : Value} (h : JQ w0 w b jb Ls Q N rows jv) (hr : ∀ r ∈ rows', r ∈ rows) : JQ w0 w b jb Ls Q N rows' jv := by
  obtain ⟨L, s, h1, h2⟩ := h
  refine ⟨L, s, h1, ?_⟩
  rcases h2 with ⟨h3, h4⟩ | ⟨jk, cb, v, l, slot, cv, u, br, h3, h4, h5, h6, h7⟩
  · exact .inl ⟨h3, fun r h => h4 r (hr r h)⟩
  · exact .inr ⟨jk, cb, v, l, slot, cv, u, br, h3, h4, h5, h6, fun r h => h7 r (hr r h)⟩
theorem JQ.rows_ {w0 w : World} {b : Nat} {jb : Int} {Ls Q : List ByteArray → Prop} {N : Nat} {rows : Rws} {jv : Value} (h : JQ w0 w b jb Ls Q N rows jv) : ∀ r ∈ rows, strRK.Own w w0.heap.size r.1 r.2 := by
  obtain ⟨L, s, h1, h2⟩ := h
  rcases h2 with ⟨h3, h4⟩ | ⟨jk, cb, v, l, slot, cv, u, br, h3, h4, h5, h6, h7⟩
  · exact fun r h => (h4 r h).1
  · exact fun r h => (h7 r h).1
theorem JQ.jv_ {w0 w : World} {b : Nat} {jb : Int} {Ls Q : List ByteArray → Prop} {N : Nat} {rows : Rws} {jv : Value} (h : JQ w0 w b jb Ls Q N rows jv) : jv = .pointer none ∨ ∃ jk, jv = .pointer (some ⟨jk, 0, none⟩) := by
  obtain ⟨L, s, h1, h2⟩ := h
  rcases h2 with ⟨h3, h4⟩ | ⟨jk, cb, v, l, slot, cv, u, br, h3, h4, h5, h6, h7⟩
  · exact .inl h3
  · exact .inr ⟨jk, h3⟩
/-- What Append does to what the files say. -/
theorem astep_law {s s' : DS} {jb ec : Int} {l ys l' : List ByteArray} {slot slot' : Nat} {cv cv' : Bs} {br br' : Bool} {Ls : List ByteArray → Prop} (h : AStep s s' jb l ys slot cv br ec l' slot' cv' br') (hG : br = false → JGood s jb l slot cv) (hS : Safe s jb Ls) :
    (ec = 0 ∧ br = false ∧ l' = l ++ ys ∧ br' = false ∧ JGood s' jb (l ++ ys) slot' cv') ∨ (ec ≠ 0 ∧ (ec = 9 ∨ ec = 10) ∧ l' = l ∧ br' = true ∧ Safe s' jb (fun x => x = l ∨ x = l ++ ys)) ∨ (ec ≠ 0 ∧ ec ≠ 9 ∧ ec ≠ 10 ∧ l' = l ∧ br' = br ∧ Safe s' jb Ls ∧ (br' = false → JGood s' jb l slot' cv') ∧ (br = false → 1048576 < (formB l).length + (formB ys).length)) := by
  rcases h with ⟨rfl, rfl, rfl, rfl, rfl⟩ | ⟨rfl, rfl, rfl, rfl, rfl, rfl, rfl, rfl⟩ | ⟨rfl, h1, h2, rfl, rfl, rfl, rfl, rfl, rfl⟩ | ⟨rfl, h1, h2, hap, h3, h4⟩
  · exact .inr (.inr ⟨by omega, by omega, by omega, rfl, rfl, hS, fun h => (by cases h), fun h => (by cases h)⟩)
  · exact .inl ⟨rfl, rfl, by simp, rfl, by simpa using hG rfl⟩
  · exact .inr (.inr ⟨by omega, by omega, by omega, rfl, rfl, hS, fun _ => hG rfl, fun _ => h2⟩)
  · by_cases he : ec = 0
    · obtain ⟨rfl, rfl, rfl, rfl⟩ := h3 he
      exact .inl ⟨he, rfl, rfl, rfl, (hap.ok he).1⟩
    · obtain ⟨rfl, rfl⟩ := h4 he
      exact .inr (.inl ⟨he, (hap.err he).1, rfl, rfl, (hap.err he).2⟩)
theorem cstep_law {s s' : DS} {jb ec n : Int} {l l' : List ByteArray} {slot slot' : Nat} {cv cv' : Bs} {br br' : Bool} {Ls : List ByteArray → Prop} (h : CStep s s' jb l n slot cv br ec l' slot' cv' br') (hG : br = false → JGood s jb l slot cv) (hS : Safe s jb Ls) :
    (ec = 0 ∧ br = false ∧ 0 ≤ n ∧ n ≤ (l.length : Int) ∧ l' = l.take n.toNat ∧ br' = false ∧ JGood s' jb (l.take n.toNat) slot' cv') ∨ (ec ≠ 0 ∧ (ec = 9 ∨ ec = 10) ∧ 0 ≤ n ∧ n < (l.length : Int) ∧ l' = l ∧ br' = true ∧ Safe s' jb (fun x => x = l ∨ x = l.take n.toNat)) ∨ (ec ≠ 0 ∧ ec ≠ 9 ∧ ec ≠ 10 ∧ l' = l ∧ br' = br ∧ Safe s' jb Ls ∧ (br' = false → JGood s' jb l slot' cv')) := by
  rcases h with ⟨rfl, rfl, rfl, rfl, rfl⟩ | ⟨rfl, h1, rfl, rfl, rfl, rfl, rfl, rfl⟩ | ⟨rfl, h1, rfl, hl', rfl, rfl, rfl, rfl⟩ | ⟨rfl, h1, h2, hap, h3, h4⟩
  · exact .inr (.inr ⟨by omega, by omega, by omega, rfl, rfl, hS, fun h => (by cases h)⟩)
  · exact .inr (.inr ⟨by omega, by omega, by omega, rfl, rfl, hS, fun _ => hG rfl⟩)
  · have e : l.take n.toNat = l := by rw [h1, Int.toNat_natCast, List.take_length]
    exact .inl ⟨rfl, rfl, by omega, by omega, hl'.trans e.symm, rfl, by rw [e]; exact hG rfl⟩
  · by_cases he : ec = 0
    · obtain ⟨rfl, rfl, rfl, rfl⟩ := h3 he
      exact .inl ⟨he, rfl, h1, by omega, rfl, rfl, (hap.ok he).1⟩
    · obtain ⟨rfl, rfl⟩ := h4 he
      exact .inr (.inl ⟨he, (hap.err he).1, h1, h2, rfl, rfl, (hap.err he).2⟩)
theorem jg_lose {w0 w : World} {b jk : Nat} {jb : Int} {l : List ByteArray} {N : Nat} {rows : Rws} {P : DS → Prop} (h : JG w0 w b jb l N rows jk P) (n : Int) (hn : I64 n) :
    Calls Tryd.prog 24 #[.pointer (some ⟨b, 0, none⟩), .int .i64 n] w fun e w' => e = .returned (.tuple #[]) ∧ JG w0 w' b jb l N rows jk (fun s => s.lost = max n 0) := by
  obtain ⟨L, s, cb, v, slot, cv, u, h1, h2, h3, h4, h5⟩ := h
  refine (lose_any b _ L s N n hn w h1.D).mono ?_
  rintro e w' ⟨rfl, hD, hC⟩
  exact ⟨rfl, L, _, cb, v, slot, cv, u, ⟨hD, hC.low h1.B (fun k hk => (h1.D.lt hk).1), h1.E.dsk h1.D hC, h1.S.shr (Shr.of_fl rfl)⟩, h2.dsk hD hC, h3.of_fl h3.up rfl rfl, h1.D.rws h4 hC, rfl⟩
/-- Append, in a law's walk. -/
theorem jq_append {w0 w : World} {b jk : Nat} {jb : Int} {Ls Q : List ByteArray → Prop} {N m : Nat} {rows : Rws} (h : JQ w0 w b jb Ls Q N rows (.pointer (some ⟨jk, 0, none⟩))) (hj : 0 ≤ jb ∧ jb ≤ 14) (A : Option Addr) (c : Nat) (ys : List ByteArray) (hs : SlR w0 w0.heap.size A ys) (hy : Bd 8 ys) (hQ : ∀ l, Q l → Bd m l) (hm : m ≤ 1000) (hN : N ≤ 40000000) :
    Calls Tryd.prog 20 #[.pointer (some ⟨jk, 0, none⟩), .slice A ys.length c] w fun e w' => ∃ (ec : Int) (l : List ByteArray), e = .returned (.int .i64 ec) ∧ KT [49] w w' ∧ Q l ∧
      ((ec = 0 ∧ JG w0 w' b jb (l ++ ys) (N + 4000) rows jk (fun _ => True)) ∨
       (ec ≠ 0 ∧ (ec = 9 ∨ ec = 10) ∧ JQ w0 w' b jb (fun x => x = l ∨ x = l ++ ys) (fun x => x = l) (N + 4000) rows (.pointer (some ⟨jk, 0, none⟩))) ∨
       (ec ≠ 0 ∧ ec ≠ 9 ∧ ec ≠ 10 ∧ JQ w0 w' b jb Ls (fun x => x = l) (N + 4000) rows (.pointer (some ⟨jk, 0, none⟩)))) := by
  obtain ⟨L, s, h1, h2⟩ := h
  rcases h2 with ⟨h, _⟩ | ⟨jk', cb, v, l, slot, cv, u, br, hjv, hM, hq, hG, hR⟩
  · cases h
  injection hjv with hjv
  injection hjv with hjv
  injection hjv with hjv
  subst hjv
  have hb := hQ l hq
  have f1 := hb.form
  have f2 := hy.form
  refine (append_any _ jk b cb L s jb v l slot cv u br N A c ys w hM hG hj ((hs.below h1.B).more h1.base_) (fun ad e h0 hf => ?_) (fun x hx => by have := hy.2 x hx; omega) (by omega) (by omega) (by have := hy.1; omega) (by have := hb.1; omega) (by omega) h1.base_).mono ?_
  · have hge := (hM.base_ hf).1
    subst e
    obtain ⟨g, off, hA, hg, _⟩ := strRK.elem hs h0
    injection hA with hA
    subst hA
    simp only at hge
    omega
  rintro e w' ⟨ec, L', s', v', l', slot', cv', u', br', rfl, hst, hR2⟩
  have hC := hR2.C
  have hI := fun (Ls' : List ByteArray → Prop) (hS' : Safe s' jb Ls') => (show JI w0 w' b L' s' jb Ls' (N + 4000) from ⟨hR2.M.H.mono (by omega), hC.low h1.B (fun k hk => (hM.base_ hk).1), hR2.M.E, hS'⟩)
  have hRw := hM.rws hR hC hR2.lv
  refine ⟨ec, l, rfl, hM.kt hC, hq, ?_⟩
  rcases astep_law hst hG h1.S with ⟨a1, a2, rfl, rfl, a5⟩ | ⟨a1, a2, rfl, rfl, a5⟩ | ⟨a1, a2, a3, rfl, rfl, a5, a6, _⟩
  · exact .inl ⟨a1, L', s', cb, v', slot', cv', u', hI _ a5.safe, hR2.M.mono (by omega), a5, hRw, trivial⟩
  · exact .inr (.inl ⟨a1, a2, L', s', hI _ a5, .inr ⟨jk, cb, v', _, slot', cv', u', _, rfl, hR2.M.mono (by omega), rfl, fun h => (by cases h), hRw⟩⟩)
  · exact .inr (.inr ⟨a1, a2, a3, L', s', hI _ a5, .inr ⟨jk, cb, v', _, slot', cv', u', _, rfl, hR2.M.mono (by omega), rfl, a6, hRw⟩⟩)
/-- Cut, in a law's walk. -/
theorem jq_cut {w0 w : World} {b jk : Nat} {jb : Int} {Ls Q : List ByteArray → Prop} {N m : Nat} {rows : Rws} (h : JQ w0 w b jb Ls Q N rows (.pointer (some ⟨jk, 0, none⟩))) (hj : 0 ≤ jb ∧ jb ≤ 14) (n : Int) (hn : I64 n) (hQ : ∀ l, Q l → Bd m l) (hm : m ≤ 1000) (hN : N ≤ 40000000) :
    Calls Tryd.prog 21 #[.pointer (some ⟨jk, 0, none⟩), .int .i64 n] w fun e w' => ∃ (ec : Int) (l : List ByteArray), e = .returned (.int .i64 ec) ∧ KT [49] w w' ∧ Q l ∧
      ((ec = 0 ∧ 0 ≤ n ∧ n ≤ (l.length : Int) ∧ JG w0 w' b jb (l.take n.toNat) (N + 4000) rows jk (fun _ => True)) ∨
       (ec ≠ 0 ∧ (ec = 9 ∨ ec = 10) ∧ 0 ≤ n ∧ n < (l.length : Int) ∧ JQ w0 w' b jb (fun x => x = l ∨ x = l.take n.toNat) (fun x => x = l) (N + 4000) rows (.pointer (some ⟨jk, 0, none⟩))) ∨
       (ec ≠ 0 ∧ ec ≠ 9 ∧ ec ≠ 10 ∧ JQ w0 w' b jb Ls (fun x => x = l) (N + 4000) rows (.pointer (some ⟨jk, 0, none⟩)))) := by
  obtain ⟨L, s, h1, h2⟩ := h
  rcases h2 with ⟨h, _⟩ | ⟨jk', cb, v, l, slot, cv, u, br, hjv, hM, hq, hG, hR⟩
  · cases h
  injection hjv with hjv
  injection hjv with hjv
  injection hjv with hjv
  subst hjv
  have hb := hQ l hq
  have f1 := hb.form
  refine (cut_any _ jk b cb L s jb v l slot cv u br N n w hM hG hj hn (by omega) (fun x hx => by have := hb.2 x hx; omega) (by have := hb.1; omega) (by omega) h1.base_).mono ?_
  rintro e w' ⟨ec, L', s', v', l', slot', cv', u', br', rfl, hst, hR2⟩
  have hC := hR2.C
  have hI := fun (Ls' : List ByteArray → Prop) (hS' : Safe s' jb Ls') => (show JI w0 w' b L' s' jb Ls' (N + 4000) from ⟨hR2.M.H.mono (by omega), hC.low h1.B (fun k hk => (hM.base_ hk).1), hR2.M.E, hS'⟩)
  have hRw := hM.rws hR hC hR2.lv
  refine ⟨ec, l, rfl, hM.kt hC, hq, ?_⟩
  rcases cstep_law hst hG h1.S with ⟨a1, a2, b1, b2, rfl, rfl, a5⟩ | ⟨a1, a2, b1, b2, rfl, rfl, a5⟩ | ⟨a1, a2, a3, rfl, rfl, a5, a6⟩
  · exact .inl ⟨a1, b1, b2, L', s', cb, v', slot', cv', u', hI _ a5.safe, hR2.M.mono (by omega), a5, hRw, trivial⟩
  · exact .inr (.inl ⟨a1, a2, b1, b2, L', s', hI _ a5, .inr ⟨jk, cb, v', _, slot', cv', u', _, rfl, hR2.M.mono (by omega), rfl, fun h => (by cases h), hRw⟩⟩)
  · exact .inr (.inr ⟨a1, a2, a3, L', s', hI _ a5, .inr ⟨jk, cb, v', _, slot', cv', u', _, rfl, hR2.M.mono (by omega), rfl, a6, hRw⟩⟩)
/-- The journal's list. -/
theorem JQ.pin {w0 w : World} {b jk : Nat} {jb : Int} {Ls Q : List ByteArray → Prop} {N : Nat} {rows : Rws} (h : JQ w0 w b jb Ls Q N rows (.pointer (some ⟨jk, 0, none⟩))) : ∃ cb v l br, Q l ∧ Jr w w0.heap.size jk b cb jb v l br ∧ JQ w0 w b jb Ls (fun x => x = l) N rows (.pointer (some ⟨jk, 0, none⟩)) := by
  obtain ⟨L, s, h1, h2⟩ := h
  rcases h2 with ⟨h, _⟩ | ⟨jk', cb, v, l, slot, cv, u, br, hjv, hM, hq, hG, hR⟩
  · cases h
  injection hjv with hjv
  injection hjv with hjv
  injection hjv with hjv
  subst hjv
  exact ⟨cb, v, l, br, hq, ⟨hM.J, hM.l⟩, L, s, h1, .inr ⟨jk, cb, v, l, slot, cv, u, br, rfl, hM, rfl, hG, hR⟩⟩
theorem jq_jr {w0 w : World} {b jk : Nat} {jb : Int} {Ls Q : List ByteArray → Prop} {N : Nat} {rows : Rws} (h : JQ w0 w b jb Ls Q N rows (.pointer (some ⟨jk, 0, none⟩))) : ∃ cb v l br, Q l ∧ Jr w w0.heap.size jk b cb jb v l br := by
  obtain ⟨L, s, h1, h2⟩ := h
  rcases h2 with ⟨h, _⟩ | ⟨jk', cb, v, l, slot, cv, u, br, hjv, hM, hq, hG, hR⟩
  · cases h
  injection hjv with hjv
  injection hjv with hjv
  injection hjv with hjv
  subst hjv
  exact ⟨cb, v, l, br, hq, hM.J, hM.l⟩
end Go.Proofs.YtbefmjodpndndaaDoor
namespace Go.Proofs.YtbefmjodpndndaaDoor
open Go.RowKit Go.IntWalk

section
variable {w : World} {base B : Nat} {A : Option Addr} {v : Value} {l : List ByteArray}
theorem row_app (h : strRK.Own w base v l) (hok : ∀ x ∈ l, x.size ≤ maxLen) {ys : List ByteArray} (hs : SlR w B A ys) (ty : TypeId) (c : Nat) (hlen : l.length + ys.length ≤ 100000000) (hbase : base ≤ w.heap.size) :
    ∃ A' c' w', (Builtin.append_ #[36, 36] ty #[v, .slice A ys.length c]).run Tryd.prog w = .ok (.slice A' (l.length + ys.length) c') w' ∧ strRK.Own w' base (.slice A' (l.length + ys.length) c') (l ++ ys) ∧ w.grownBy w' v.ownBlock ∧ ∀ g, (Value.slice A' (l.length + ys.length) c').ownBlock = some g → v.ownBlock = some g ∨ w.heap.size ≤ g := by
  by_cases h0 : 0 < ys.length
  · exact LOwn.run_app ⟨hok, .inl h⟩ hs h0 ty c hlen hbase
  · have e : ys = [] := List.eq_nil_of_length_eq_zero (by omega)
    subst e
    obtain ⟨i0, hi, hz0, hz1, hz2⟩ := info_parts strRK.info
    obtain ⟨A1, c1, rfl, hnc⟩ : ∃ A1 c1, v = .slice A1 l.length c1 ∧ l.length ≤ c1 := by
      rcases h.2 with ⟨rfl, hn⟩ | ⟨g, cap, cur, rfl, _, _, hc, _⟩
      · exact ⟨none, 0, by rw [hn], by omega⟩
      · exact ⟨_, cap, rfl, hc⟩
    exact ⟨A1, c1, w, run_append0 strRK.und (by intro k h; cases h) hi w ty A1 A l.length c1 c hnc, by simpa using h, World.grownBy.refl _ _, fun g hg => .inl hg⟩
theorem row_appL {ops : Array Oper} {rest : List Oper} {o : Oper} {a : Act} {Q : Exit → Act → World → Prop} (hgd : o.guard = none) (s x : Operand)
    (ho : o.op = .call { callee := .builtin .append, args := #[s, x], argTypes := #[36, 36] }) {ys : List ByteArray} {c : Nat} (hv : a.eval s = v) (hown : strRK.Own w base v l) (hok : ∀ x ∈ l, x.size ≤ maxLen) (hx : a.eval x = .slice A ys.length c) (hs : SlR w B A ys) (hlen : l.length + ys.length ≤ 100000000) (hbase : base ≤ w.heap.size)
    (h : ∀ A' c' w', strRK.Own w' base (.slice A' (l.length + ys.length) c') (l ++ ys) → w.grownBy w' v.ownBlock → (∀ g, (Value.slice A' (l.length + ys.length) c').ownBlock = some g → v.ownBlock = some g ∨ w.heap.size ≤ g) → wpList Tryd.prog ops Q rest (a.put o.dst (.slice A' (l.length + ys.length) c')) w') : wpList Tryd.prog ops Q (o :: rest) a w := by
  obtain ⟨A', c', w', hr, h2, h3, h4⟩ := row_app hown hok hs o.type c hlen hbase
  refine wpList_plain hgd fun K hK => ?_
  unfold Oper.wp execOp
  simp only [ho, resolve, invoke, builtin, Sem.run_bind, Sem.run_pure, Result.andThen_ok, List.map_toArray, List.map_cons, List.map_nil, hv, hx, hr]
  exact hK _ _ (h A' c' w' h2 h3 h4)
theorem row_appS {F : Fence} {n0 : Nat} {o : Oper} {a : Act} {K : Act → World → Prop} {Q : Exit → Act → World → Prop} (hF : ∀ f, F.fn f) (s x : Operand)
    (ho : o.op = .call { callee := .builtin .append, args := #[s, x], argTypes := #[36, 36] }) {ys : List ByteArray} {c : Nat} (hv : a.eval s = v) (hown : strRK.Own w base v l) (hok : ∀ x ∈ l, x.size ≤ maxLen) (hx : a.eval x = .slice A ys.length c) (hs : SlR w B A ys) (hlen : l.length + ys.length ≤ 100000000) (hbase : base ≤ w.heap.size)
    (h : ∀ A' c' w', strRK.Own w' base (.slice A' (l.length + ys.length) c') (l ++ ys) → w.grownBy w' v.ownBlock → (∀ g, (Value.slice A' (l.length + ys.length) c').ownBlock = some g → v.ownBlock = some g ∨ w.heap.size ≤ g) → K (a.put o.dst (.slice A' (l.length + ys.length) c')) w') : Oper.wpIn F n0 Tryd.prog o a w K Q := by
  obtain ⟨A', c', w', hr, h2, h3, h4⟩ := row_app hown hok hs o.type c hlen hbase
  refine uponIn_of_value (v := .slice A' (l.length + ys.length) c') (w' := w') hF (by rw [ho]; intro c hc; cases hc) ?_ (h A' c' w' h2 h3 h4)
  unfold execOp
  simp only [ho, resolve, invoke, builtin, Sem.run_bind, Sem.run_pure, Result.andThen_ok, List.map_toArray, List.map_cons, List.map_nil, hv, hx, hr]
end
/-- The one row beside a journal grows. -/
theorem JG.grow {w0 w w' : World} {b : Nat} {jb : Int} {l : List ByteArray} {N : Nat} {P : DS → Prop} {jk : Nat} {rv rv' : Value} {rl rl' : List ByteArray} (h : JG w0 w b jb l N [(rv, rl)] jk P) (hg : w.grownBy w' rv.ownBlock) (ho : strRK.Own w' w0.heap.size rv' rl') (hl : ∀ g, rv'.ownBlock = some g → rv.ownBlock = some g ∨ w.heap.size ≤ g) : JG w0 w' b jb l N [(rv', rl')] jk P := by
  obtain ⟨L, s, cb, v, slot, cv, u, h1, h2, h3, h4, h5⟩ := h
  obtain ⟨hr1, hr2⟩ := h4 _ (List.mem_singleton.2 rfl)
  simp only at hr1 hr2
  have hC : Chg w w' (fun k => rv.ownBlock = some k) := Chg.of_grown hg (fun k e => e.symm)
  have hap : ∀ k, JF b cb jk L v k → rv.ownBlock ≠ some k := by
    intro k hk e
    obtain ⟨_, cs, hb⟩ := own_blk hr1 k e
    exact h2.str_apart hb (hr2 k e) hk
  have hlow : ∀ k, rv.ownBlock = some k → w0.heap.size ≤ k := fun k e => (World.ownsRow.lt hr1 k e).1
  have hE := h1.E.chg hC hlow
  have hD := h1.D.chg hC (fun k hk => hap k (.inl hk))
  refine ⟨L, s, cb, v, slot, cv, u, ⟨hD, hC.low h1.B hlow, hE, h1.S⟩, ⟨hD, hC.blk h2.X (hap _ (.inr (.inl rfl))), hC.blk h2.J (hap _ (.inr (.inr (.inl rfl)))), h2.l.kept (fun g cs hv hb => hC.blk hb (hap g (.inr (.inr (.inr hv))))), h2.hj, h2.hc, hE⟩, h3, fun r hr => ?_, h5⟩
  rw [List.mem_singleton] at hr
  subst hr
  refine ⟨ho, fun g hg e => ?_⟩
  rcases hl g hg with h6 | h6
  · exact hr2 g h6 e
  · have := (h2.l.blk e).2.1
    omega
theorem Dsk.low_ {w : World} {base base' b : Nat} {L : DL} {s : DS} {N : Nat} (h : Dsk w base b L s N) (hb : base' ≤ base) : Dsk w base' b L s N := by
  obtain ⟨q, hq, hq2⟩ := h.q
  obtain ⟨k, hk, hk2⟩ := h.k
  exact ⟨h.d, h.f, h.st, ⟨q, own_base hq hb, hq2⟩, ⟨k, own_base hk hb, hk2⟩, h.ne, ⟨Nat.le_trans hb h.hb.1, Nat.le_trans hb h.hb.2.1, Nat.le_trans hb h.hb.2.2⟩, h.ok⟩
/-- All and SameTexts against a row. -/
theorem row_slr {w : World} {base : Nat} {v : Value} {l : List ByteArray} (h : strRK.Own w base v l) (hok : ∀ x ∈ l, x.size ≤ maxLen) : ∃ A c, v = .slice A l.length c ∧ SlR w w.heap.size A l := by
  obtain ⟨A, c, hv, -, -, hs⟩ := h.slr hok
  exact ⟨A, c, hv, hs⟩
theorem own_slr {w : World} {base : Nat} {A : Option Addr} {m c : Nat} {l : List ByteArray} (h : strRK.Own w base (.slice A m c) l) (hok : ∀ x ∈ l, x.size ≤ maxLen) : SlR w w.heap.size A l := by
  obtain ⟨B, d, e, s⟩ := row_slr h hok
  injection e with e1 _ _
  rw [e1]
  exact s
theorem JQ.none_ {w0 w : World} {b : Nat} {jb : Int} {Ls Q Q' : List ByteArray → Prop} {N : Nat} {rows : Rws} (h : JQ w0 w b jb Ls Q N rows (.pointer none)) : JQ w0 w b jb Ls Q' N rows (.pointer none) := by
  obtain ⟨L, s, h1, h2⟩ := h
  refine ⟨L, s, h1, ?_⟩
  rcases h2 with h | ⟨_, _, _, _, _, _, _, _, h, _⟩
  · exact .inl h
  · cases h
/-- SameTexts of two rows. -/
theorem same_rows {w : World} {b1 b2 : Nat} {A1 A2 : Option Addr} {m1 m2 c1 c2 : Nat} {l1 l2 : List ByteArray} (h1 : strRK.Own w b1 (.slice A1 m1 c1) l1) (h2 : strRK.Own w b2 (.slice A2 m2 c2) l2) (k1 : ∀ x ∈ l1, x.size ≤ maxLen) (k2 : ∀ x ∈ l2, x.size ≤ maxLen) (n1 : l1.length ≤ maxLen) (n2 : l2.length ≤ maxLen) :
    Calls Tryd.prog 17 #[.slice A1 m1 c1, .slice A2 m2 c2] w fun e w' => e = .returned (.bool (decide (l1 = l2))) ∧ Below w.heap.size w w' := by
  obtain ⟨B1, d1, e1, s1⟩ := row_slr h1 k1
  obtain ⟨B2, d2, e2, s2⟩ := row_slr h2 k2
  rw [e1, e2]
  exact sameTexts_any B1 B2 d1 d2 l1 l2 w s1 s2 n1 n2
/-- All, Len, in a law's walk. -/
theorem jq_all {w0 w : World} {b jk : Nat} {jb : Int} {Ls : List ByteArray → Prop} {l : List ByteArray} {N : Nat} {rows : Rws} (h : JQ w0 w b jb Ls (fun x => x = l) N rows (.pointer (some ⟨jk, 0, none⟩))) (hl : l.length ≤ 1000000) :
    Calls Tryd.prog 18 #[.pointer (some ⟨jk, 0, none⟩)] w fun e w' => ∃ g, e = .returned (.slice (some ⟨g, 0, none⟩) l.length l.length) ∧ strRK.Own w' w.heap.size (.slice (some ⟨g, 0, none⟩) l.length l.length) l ∧ JQ w0 w' b jb Ls (fun x => x = l) N rows (.pointer (some ⟨jk, 0, none⟩)) ∧ Below w.heap.size w w' := by
  obtain ⟨cb, v, l', br, hl', hJ⟩ := jq_jr h
  have hl' : l' = l := hl'
  subst hl'
  refine (all_any w0.heap.size jk b cb jb v l' br w hJ hl).mono ?_
  rintro e w' ⟨g, rfl, -, hO, hB⟩
  exact ⟨g, rfl, hO, h.below hB, hB⟩
theorem jq_len {w0 w : World} {b jk : Nat} {jb : Int} {Ls : List ByteArray → Prop} {l : List ByteArray} {N : Nat} {rows : Rws} (h : JQ w0 w b jb Ls (fun x => x = l) N rows (.pointer (some ⟨jk, 0, none⟩))) :
    Calls Tryd.prog 29 #[.pointer (some ⟨jk, 0, none⟩)] w fun e w' => e = .returned (.int .i64 (l.length : Int)) ∧ JQ w0 w' b jb Ls (fun x => x = l) N rows (.pointer (some ⟨jk, 0, none⟩)) := by
  obtain ⟨cb, v, l', br, hl', hJ⟩ := jq_jr h
  have hl' : l' = l := hl'
  subst hl'
  refine (len_any w0.heap.size jk b cb jb v l' br w hJ).mono ?_
  rintro e w' ⟨rfl, hB⟩
  exact ⟨rfl, h.below hB⟩
theorem Bd.max_ {m : Nat} {l : List ByteArray} (h : Bd m l) : ∀ x ∈ l, x.size ≤ maxLen := fun x hx => by have := h.2 x hx; unfold maxLen; omega
end Go.Proofs.YtbefmjodpndndaaDoor
