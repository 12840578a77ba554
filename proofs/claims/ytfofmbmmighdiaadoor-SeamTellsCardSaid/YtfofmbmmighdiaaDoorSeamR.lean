
/- Seam: SeamBack, the walk. -/
import Derived.Test.YtfofmbmmighdiaaDoorSeamT
import Derived.Test.YtfofmbmmighdiaaDoorSeamJ
import Derived.Test.YtfofmbmmighdiaaDoorSeamK
set_option linter.unusedSimpArgs false
set_option linter.unusedVariables false
namespace Go.Proofs.YtfofmbmmighdiaaDoor
open Go.RowKit Go.IntWalk

theorem rp_encP (p : Pas) (h1 : I64 p.1) (h2 : I64 p.2.1) (h3 : I64 p.2.2) : readPR (encP p) = some p := by
  have := readP_enc p h1 h2 h3 []
  rw [List.append_nil] at this
  unfold readPR
  rw [this]; rfl
theorem encP_le (p : Pas) (h1 : I64 p.1) (h2 : I64 p.2.1) (h3 : I64 p.2.2) : (encP p).length ≤ 66 := by
  have := encI_le _ h1; have := encI_le _ h2; have := encI_le _ h3
  simp only [encP, List.length_append]; omega
theorem robs_i {M : Int} {rs : List Rob} (hM : M ≤ 4611686018427387904) (h : ∀ r ∈ rs, RobOK M r) : (∀ r ∈ rs, -4611686018427387904 ≤ r.2.1 ∧ r.2.1 ≤ 4611686018427387904) ∧ ∀ r ∈ rs, RobI r :=
  ⟨fun r hr => by have := (h r hr).n; omega, fun r hr => ⟨⟨by have := (h r hr).p; omega, by have := (h r hr).p; omega⟩, ⟨by have := (h r hr).n; omega, by have := (h r hr).n; omega⟩⟩⟩
/-- Three desks: d, and two others. -/
structure S3 (w : World) (xd nd : Nat) (vd : Value) (xa na : Nat) (va : Value) (xb nb : Nat) (vb : Value) (me : Int) (rd ra rb : List Rob) (wx : World) : Prop where
  s : S2 w xa na va me xb nb vb me ra rb wx
  ld : w.heap.size ≤ xd
  dd : Dk wx xd nd vd me rd
  da : vd.ownBlock = none ∨ vd.ownBlock ≠ va.ownBlock
  db : vd.ownBlock = none ∨ vd.ownBlock ≠ vb.ownBlock
  ad : va.ownBlock = none ∨ va.ownBlock ≠ vd.ownBlock
  bd : vb.ownBlock = none ∨ vb.ownBlock ≠ vd.ownBlock
section
variable {w wx wy : World} {xd nd xa na xb nb : Nat} {vd va vb : Value} {me : Int} {rd ra rb : List Rob}
theorem S3.step (h : S3 w xd nd vd xa na va xb nb vb me rd ra rb wx) (hb : Below wx.heap.size wx wy) : S3 w xd nd vd xa na va xb nb vb me rd ra rb wy :=
  ⟨h.s.step hb, h.ld, h.dd.below hb, h.da, h.db, h.ad, h.bd⟩
theorem S3.sa (h : S3 w xd nd vd xa na va xb nb vb me rd ra rb wx) {ra' : List Rob} (hd : Dk wy xa na va me ra') (hg : wx.grownBy wy va.ownBlock) : S3 w xd nd vd xa na va xb nb vb me rd ra' rb wy :=
  ⟨h.s.a hd hg, h.ld, h.dd.beside h.s.da hg h.da, h.da, h.db, h.ad, h.bd⟩
theorem S3.sb (h : S3 w xd nd vd xa na va xb nb vb me rd ra rb wx) {rb' : List Rob} (hd : Dk wy xb nb vb me rb') (hg : wx.grownBy wy vb.ownBlock) : S3 w xd nd vd xa na va xb nb vb me rd ra rb' wy :=
  ⟨h.s.b hd hg, h.ld, h.dd.beside h.s.db hg h.db, h.da, h.db, h.ad, h.bd⟩
theorem S3.sd (h : S3 w xd nd vd xa na va xb nb vb me rd ra rb wx) {rd' : List Rob} (hd : Dk wy xd nd vd me rd') (hg : wx.grownBy wy vd.ownBlock) : S3 w xd nd vd xa na va xb nb vb me rd' ra rb wy :=
  ⟨⟨h.dd.low h.s.below h.ld hg, h.s.la, h.s.lb, h.s.da.beside h.dd hg h.ad, h.s.db.beside h.dd hg h.bd, h.s.ab, h.s.ba⟩, h.ld, hd, h.da, h.db, h.ad, h.bd⟩
end
theorem Dk.drewN {w : World} {base b : Nat} {v : Value} {me : Int} {rs : List Rob} (h : Dk w base b v me rs) (n : Nat) : Dk (World.drewN w n) base b v me rs := h.below (below_drewN (Below.refl _ _) n)
theorem take_doLs (rs : List Rob) (l : List Opp) (k : Nat) (hk : k < l.length) : doLs rs (l.take (k + 1)) = doL (doLs rs (l.take k)) l[k] := by
  rw [List.take_add_one, List.getElem?_eq_getElem hk]; exact doLs_snoc _ _ _
end Go.Proofs.YtfofmbmmighdiaaDoor
