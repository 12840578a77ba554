
/- Seam: SeamBack, the walk. -/
import Derived.Test.YtnnephifjikkdaaDoorSeamT
import Derived.Test.YtnnephifjikkdaaDoorSeamJ
import Derived.Test.YtnnephifjikkdaaDoorSeamK
set_option linter.unusedSimpArgs false
set_option linter.unusedVariables false
namespace Go.Proofs.YtnnephifjikkdaaDoor
open Go.RowKit Go.IntWalk

theorem rp_encP (p : Pas) (h1 : I64 p.1) (h2 : I64 p.2.1) (h3 : I64 p.2.2) : readPR (encP p) = some p := by
  have := readP_enc p h1 h2 h3 []
  rw [List.append_nil] at this
  unfold readPR
  rw [this]; rfl
theorem encP_le (p : Pas) (h1 : I64 p.1) (h2 : I64 p.2.1) (h3 : I64 p.2.2) : (encP p).length ≤ 66 := by
  have := encI_le _ h1; have := encI_le _ h2; have := encI_le _ h3
  simp only [encP, List.length_append]; omega
theorem robs_i {M : Int} {rs : List Rob} (hM : M ≤ 4611686018427387904) (h : ∀ r ∈ rs, RobOK M r) : (∀ r ∈ rs, -4611686018427387904 ≤ r.2.1 ∧ r.2.1 ≤ 4611686018427387904) ∧ ∀ r ∈ rs, RobI r :=
  ⟨fun r hr => by have := (h r hr).n; omega, fun r hr => ⟨⟨by have := (h r hr).p; omega, by have := (h r hr).p; omega⟩, ⟨by have := (h r hr).n; omega, by have := (h r hr).n; omega⟩⟩⟩
/-- Three desks: d, and two others. -/
structure S3 (w : World) (xd nd : Nat) (vd : Value) (xa na : Nat) (va : Value) (xb nb : Nat) (vb : Value) (me : Int) (rd ra rb : List Rob) (wx : World) : Prop where
  s : S2 w xa na va me xb nb vb me ra rb wx
  ld : w.heap.size ≤ xd
  dd : Dk wx xd nd vd me rd
  da : vd.ownBlock = none ∨ vd.ownBlock ≠ va.ownBlock
  db : vd.ownBlock = none ∨ vd.ownBlock ≠ vb.ownBlock
  ad : va.ownBlock = none ∨ va.ownBlock ≠ vd.ownBlock
  bd : vb.ownBlock = none ∨ vb.ownBlock ≠ vd.ownBlock
section
variable {w wx wy : World} {xd nd xa na xb nb : Nat} {vd va vb : Value} {me : Int} {rd ra rb : List Rob}
theorem S3.step (h : S3 w xd nd vd xa na va xb nb vb me rd ra rb wx) (hb : Below wx.heap.size wx wy) : S3 w xd nd vd xa na va xb nb vb me rd ra rb wy :=
  ⟨h.s.step hb, h.ld, h.dd.below hb, h.da, h.db, h.ad, h.bd⟩
theorem S3.sa (h : S3 w xd nd vd xa na va xb nb vb me rd ra rb wx) {ra' : List Rob} (hd : Dk wy xa na va me ra') (hg : wx.grownBy wy va.ownBlock) : S3 w xd nd vd xa na va xb nb vb me rd ra' rb wy :=
  ⟨h.s.a hd hg, h.ld, h.dd.beside h.s.da hg h.da, h.da, h.db, h.ad, h.bd⟩
theorem S3.sb (h : S3 w xd nd vd xa na va xb nb vb me rd ra rb wx) {rb' : List Rob} (hd : Dk wy xb nb vb me rb') (hg : wx.grownBy wy vb.ownBlock) : S3 w xd nd vd xa na va xb nb vb me rd ra rb' wy :=
  ⟨h.s.b hd hg, h.ld, h.dd.beside h.s.db hg h.db, h.da, h.db, h.ad, h.bd⟩
theorem S3.sd (h : S3 w xd nd vd xa na va xb nb vb me rd ra rb wx) {rd' : List Rob} (hd : Dk wy xd nd vd me rd') (hg : wx.grownBy wy vd.ownBlock) : S3 w xd nd vd xa na va xb nb vb me rd' ra rb wy :=
  ⟨⟨h.dd.low h.s.below h.ld hg, h.s.la, h.s.lb, h.s.da.beside h.dd hg h.ad, h.s.db.beside h.dd hg h.bd, h.s.ab, h.s.ba⟩, h.ld, hd, h.da, h.db, h.ad, h.bd⟩
end
theorem Dk.drewN {w : World} {base b : Nat} {v : Value} {me : Int} {rs : List Rob} (h : Dk w base b v me rs) (n : Nat) : Dk (World.drewN w n) base b v me rs := h.below (below_drewN (Below.refl _ _) n)
theorem take_doLs (rs : List Rob) (l : List Opp) (k : Nat) (hk : k < l.length) : doLs rs (l.take (k + 1)) = doL (doLs rs (l.take k)) l[k] := by
  rw [List.take_add_one, List.getElem?_eq_getElem hk]; exact doLs_snoc _ _ _
set_option maxRecDepth 100000 in
set_option maxHeartbeats 8000000 in
theorem sback_any (me : Int) (Am : Option Addr) (cm : Nat) (mine : List Bool) (Al : Option Addr) (cl : Nat) (l : List Opp) (Ao : Option Addr) (co : Nat) (more : List Opp) (w : World) (hml : mine.length ≤ maxLen) (hll : l.length ≤ maxLen) (hol : more.length ≤ maxLen)
    (hm : SlR w w.heap.size Am mine) (hs : SlR w w.heap.size Al l) (ho : SlR w w.heap.size Ao more) (he : Env w) :
    Calls Tryd.prog 5 #[.int .i64 me, .slice Am mine.length cm, .slice Al l.length cl, .slice Ao more.length co] w fun e w' => e = .returned (.bool true) ∧ Below w.heap.size w w' := by
  have hml' := hid hml
  have hll' := hid hll
  have hol' := hid hol
  unfold maxLen at hml hll hol
  go_enter Tryd.func5, Tryd.ntmps5
  go_wp2_with fail
  refine (dsmall_any _).mono ?_
  rintro e w1 ⟨rfl, hB1⟩
  have B1 := hid hB1
  clear hB1
  by_cases h20 : (20 : Int) < mine.length
  · go_wp2_with fail
    go_ret
    exact ⟨rfl, B1.out⟩
  go_wp2_with fail
  refine (fine_any Al cl l 40 _ hll'.out ((hs.below B1.out).more B1.out.size)).mono ?_
  cases hf1 : fineL l 40 with
  | false =>
    clear hf1
    rintro e w2 ⟨rfl, rfl⟩
    go_wp2_with fail
    go_ret
    exact ⟨rfl, B1.out⟩
  | true =>
  obtain ⟨ha1, hb1⟩ := fineL_iff.1 hf1
  have HA1 := hid ha1
  clear hf1 ha1
  rintro e w2 ⟨rfl, rfl⟩
  go_wp2_with fail
  refine (fine_any Ao co more 20 _ hol'.out ((ho.below B1.out).more B1.out.size)).mono ?_
  cases hf2 : fineL more 20 with
  | false =>
    clear hf2
    rintro e w2 ⟨rfl, rfl⟩
    go_wp2_with fail
    go_ret
    exact ⟨rfl, B1.out⟩
  | true =>
  obtain ⟨ha2, hb2⟩ := fineL_iff.1 hf2
  have HA2 := hid ha2
  clear hf2 ha2
  rintro e w2 ⟨rfl, rfl⟩
  go_wp2_with fail
  refine (new_any me Am cm mine _ hml'.out ((hm.below B1.out).more B1.out.size)).mono ?_
  cases hn : newL me mine with
  | none =>
    rintro e w4 ⟨rfl, hB⟩
    obtain ⟨n0, n1⟩ := newL_none hn (by omega)
    clear hn
    have m0 : (me == 0) = false := by simp [n0]
    have m1 : (me == 1) = false := by simp [n1]
    have m0' : (me != 0) = true := by simp [n0]
    have m1' : (me != 1) = true := by simp [n1]
    clear n0 n1
    go_wp2_with fail
    go_ret
    exact ⟨rfl, B1.out.trans (hB.mono B1.out.size)⟩
  | some rs0 =>
  obtain ⟨hme, hlen0, hok0⟩ := newL_ok hn
  have HOK0 := hid hok0
  have HME := hid hme
  clear hn hme hok0
  rintro e w4 ⟨nd, vd, rfl, hnd, DD, hB⟩
  have B4 := hid (B1.out.trans (hB.mono B1.out.size))
  have D4 := hid DD
  have hz1 := hid B1.out.size
  clear hB DD B1
  generalize w1.heap.size = xd at *
  go_wp2_with fail
  go_loopw [11] (fun i wr => ∃ k : Nat, k ≤ l.length ∧ i = .int .i64 k ∧ Dk wr xd nd vd me (doLs rs0 (l.take k)) ∧ Below w.heap.size w wr) (fun i _ => l.length - (intOf i).toNat)
  case atStart => exact ⟨0, by omega, rfl, by simpa [doLs] using D4.out, B4.out⟩
  case round =>
    clear D4 B4
    obtain ⟨k, hk, rfl, hD, hB⟩ := hrel
    by_cases hlt : k < l.length
    · have hop := hs.op hlt
      have hst := hid (take_doLs rs0 l k hlt)
      have hok := doLs_ok (l.take k) (M := 1099511627776) (by omega) HOK0.out (fun o ho => HA1.out o (List.mem_of_mem_take ho))
      rw [List.length_take, Nat.min_eq_left (Nat.le_of_lt hlt)] at hok
      have hno := hid (robs_i (by omega) hok).1
      clear hok
      generalize l[k] = o at *
      obtain ⟨d, ⟨pk, pi, pn⟩, tk⟩ := o
      obtain ⟨b, off, rfl, hbB, g1, g2, g3, g4, g5, i1, i2, i3⟩ := hop
      simp only at g1 g2 g3 g4 g5 i1 i2 i3
      have G1 := hid g1; have G2 := hid g2; have G3 := hid g3; have G4 := hid g4; have G5 := hid g5
      clear g1 g2 g3 g4 g5
      have hlt' : (k : Int) < l.length := by omega
      have hrp := hid (rp_encP (pk, pi, pn) i1 i2 i3)
      have hrl := hid (encP_le (pk, pi, pn) i1 i2 i3)
      have HD := hid hD
      have HB := hid hB
      clear hD hB
      have g2 := (bcell HB.out b _ hbB).trans G2.out
      have g3 := (bcell HB.out b _ hbB).trans G3.out
      have g4 := (bcell HB.out b _ hbB).trans G4.out
      go_wp2_with fail
      refine (pbytes_any pk pi pn _ i1 i2 i3 (he.below HB.out)).mono ?_
      rintro e w5 ⟨rfl, hB5⟩
      have HD5 := hid (HD.out.below hB5)
      have HB5 := hid (HB.out.trans (hB5.mono HB.out.size))
      clear hB5 HD HB g2 g3 g4
      go_wp2_with fail
      have hc := rpass_any (bs (encP (pk, pi, pn))) w5 (by rw [bs_size]; have := hrl.out; omega) (he.below HB5.out)
      rw [show (bs (encP (pk, pi, pn))).data.toList = encP (pk, pi, pn) by simp [bs], hrp.out] at hc
      refine hc.mono ?_
      clear hc
      rintro e w6 ⟨rfl, hB6⟩
      have HD6 := hid (HD5.out.below hB6)
      have HB6 := hid (HB5.out.trans (hB6.mono HB5.out.size))
      clear hB6 HD5 HB5
      have HD7 := hid (HD6.out.alloc (Obj.cells #[.int .i64 pk, .int .i64 pi, .int .i64 pn] 48))
      have HB7 := hid (HB6.out.alloc HB6.out.size (Obj.cells #[.int .i64 pk, .int .i64 pi, .int .i64 pn] 48))
      have hz6 : b < w6.heap.size := by have := HB6.out.size; omega
      have g1 := (bcell HB6.out b _ hbB).trans G1.out
      have g2 := (bcell HB6.out b _ hbB).trans G2.out
      have g3 := (bcell HB6.out b _ hbB).trans G3.out
      have g4 := (bcell HB6.out b _ hbB).trans G4.out
      have g5 := (bcell HB6.out b _ hbB).trans G5.out
      go_wp2_with fail
      go_quiet (fail)
      go_wp2_with fail
      refine (do_any (HD7.out.drewN _) d pk pi pn tk hno.out).mono ?_
      rintro e w8 ⟨rfl, hD8, hg8⟩
      have hB8 := hid ((HD7.out.drewN _).low (below_drewN HB7.out _) hz1.out hg8)
      have hD9 := hid (show Dk w8 xd nd vd me (doLs rs0 (l.take (k + 1))) by rw [hst.out]; exact hD8)
      clear g1 g2 g3 g4 g5 hD8 hg8 HD7 HB7 HD6 HB6 hz6
      go_wp2_with fail
      go_roundw
      case rel => exact ⟨k + 1, by omega, by go_num, hD9.out, hB8.out⟩
      case measure => simp [intOf]; omega
    · obtain rfl : k = l.length := by omega
      rw [List.take_length] at hD
      have hok := doLs_ok l (M := 1099511627776) (by omega) HOK0.out HA1.out
      have hlen := hid (show (doLs rs0 l).length ≤ 20 by rw [doLs_len]; omega)
      generalize doLs rs0 l = rs1 at *
      have HOK := hid (show ∀ r ∈ rs1, RobOK 1099511627816 r from fun r hr => (hok r hr).mono (by omega))
      have HD := hid hD
      have HB := hid hB
      clear hok hD hB HOK0 hlen0 HA1 hb1 hll hk
      have hmI : I64 me := by rcases HME.out with h | h <;> (subst h; simp [I64])
      go_wp2_with fail
      refine (dbytes_any HD.out hmI (robs_i (by omega) HOK.out).2 (by have := hlen.out; omega) (he.below HB.out)).mono ?_
      rintro e w5 ⟨rfl, hB5⟩
      have HD5 := hid (HD.out.below hB5)
      have HB5 := hid (HB.out.trans (hB5.mono HB.out.size))
      clear hB5 HD HB
      go_wp2_with fail
      refine (rdesk_any me rs1 w5 HME.out (fun r hr => (HOK.out r hr).mono (by omega)) (by have := hlen.out; omega) (he.below HB5.out)).mono ?_
      rintro e w6 ⟨na, va, rfl, hna, DA, hB6⟩
      have HD6 := hid (HD5.out.below hB6)
      have HB6 := hid (HB5.out.trans (hB6.mono HB5.out.size))
      have HDA := hid DA
      have sda := hid (own_sep HD5.out DA (Nat.le_refl _))
      have hxa := hid HB5.out.size
      clear hB6 HD5 HB5 DA
      generalize w5.heap.size = xa at *
      go_wp2_with fail
      refine (copy_any HD6.out (by have := hlen.out; omega)).mono ?_
      rintro e w7 ⟨nb, vb, rfl, hnb, DB, hB7⟩
      have hS := hid (show S3 w xd nd vd xa na va w6.heap.size nb vb me rs1 rs1 rs1 w7 from
        ⟨⟨HB6.out.trans (hB7.mono HB6.out.size), hxa.out, HB6.out.size, HDA.out.below hB7, DB, (own_sep HDA.out DB (Nat.le_refl _)).1, (own_sep HDA.out DB (Nat.le_refl _)).2⟩, hz1.out, HD6.out.below hB7, sda.out.1, (own_sep HD6.out DB (Nat.le_refl _)).1, sda.out.2, (own_sep HD6.out DB (Nat.le_refl _)).2⟩)
      clear hB7 HD6 HB6 HDA DB sda hxa hz1
      generalize w6.heap.size = xb at *
      go_wp2_with fail
      go_loopw [17] (fun i wr => ∃ k : Nat, k ≤ more.length ∧ i = .int .i64 k ∧ S3 w xd nd vd xa na va xb nb vb me rs1 (doLs rs1 (more.take k)) (doLs rs1 (more.take k)) wr) (fun i _ => more.length - (intOf i).toNat)
      case atStart => exact ⟨0, by omega, rfl, by simpa [doLs] using hS.out⟩
      case round =>
        clear hS
        obtain ⟨k, hk, rfl, hS⟩ := hrel
        by_cases hlt : k < more.length
        · have hop := ho.op hlt
          have hst := hid (take_doLs rs1 more k hlt)
          have hok := doLs_ok (more.take k) (M := 1099511627816) (by omega) HOK.out (fun o ho => HA2.out o (List.mem_of_mem_take ho))
          have hok2 := doLs_ok (more.take (k + 1)) (M := 1099511627816) (by omega) HOK.out (fun o ho => HA2.out o (List.mem_of_mem_take ho))
          rw [List.length_take, Nat.min_eq_left (Nat.le_of_lt hlt)] at hok
          rw [List.length_take, Nat.min_eq_left hlt] at hok2
          have hno := hid (robs_i (by omega) hok).1
          have hri := hid (robs_i (by omega) hok2).2
          have hln := hid (show (doLs rs1 (more.take (k + 1))).length ≤ 20 by rw [doLs_len]; exact hlen.out)
          clear hok hok2
          generalize more[k] = o at *
          obtain ⟨d, ⟨pk, pi, pn⟩, tk⟩ := o
          obtain ⟨b, off, rfl, hbB, g1, g2, g3, g4, g5, i1, i2, i3⟩ := hop
          simp only at g1 g2 g3 g4 g5 i1 i2 i3
          have G1 := hid g1; have G2 := hid g2; have G3 := hid g3; have G4 := hid g4; have G5 := hid g5
          clear g1 g2 g3 g4 g5
          have hlt' : (k : Int) < more.length := by omega
          have HS := hid hS
          clear hS
          have g1 := (bcell HS.out.s.below b _ hbB).trans G1.out
          have g2 := (bcell HS.out.s.below b _ hbB).trans G2.out
          have g3 := (bcell HS.out.s.below b _ hbB).trans G3.out
          have g4 := (bcell HS.out.s.below b _ hbB).trans G4.out
          have g5 := (bcell HS.out.s.below b _ hbB).trans G5.out
          go_wp2_with fail
          refine (do_any HS.out.s.da d pk pi pn tk hno.out).mono ?_
          rintro e w8 ⟨rfl, hD8, hg8⟩
          rw [← hst.out] at hD8
          have S8 := hid (HS.out.sa hD8 hg8)
          clear g1 g2 g3 g4 g5 hD8 hg8 HS
          have g1 := (bcell S8.out.s.below b _ hbB).trans G1.out
          have g2 := (bcell S8.out.s.below b _ hbB).trans G2.out
          have g3 := (bcell S8.out.s.below b _ hbB).trans G3.out
          have g4 := (bcell S8.out.s.below b _ hbB).trans G4.out
          have g5 := (bcell S8.out.s.below b _ hbB).trans G5.out
          go_wp2_with fail
          refine (do_any S8.out.s.db d pk pi pn tk hno.out).mono ?_
          rintro e w9 ⟨rfl, hD9, hg9⟩
          rw [← hst.out] at hD9
          have S9 := hid (S8.out.sb hD9 hg9)
          clear g1 g2 g3 g4 g5 hD9 hg9 S8 G1 G2 G3 G4 G5
          go_wp2_with fail
          refine (dbytes_any S9.out.s.da hmI hri.out (by have := hln.out; omega) (he.below S9.out.s.below)).mono ?_
          rintro e w10 ⟨rfl, hB10⟩
          have S10 := hid (S9.out.step hB10)
          clear hB10 S9
          go_wp2_with fail
          refine (dbytes_any S10.out.s.db hmI hri.out (by have := hln.out; omega) (he.below S10.out.s.below)).mono ?_
          rintro e w11 ⟨rfl, hB11⟩
          have S11 := hid (S10.out.step hB11)
          clear hB11 S10
          go_wp2_with fail
          go_roundw
          case rel => exact ⟨k + 1, by omega, by go_num, S11.out⟩
          case measure => simp [intOf]; omega
        · obtain rfl : k = more.length := by omega
          rw [List.take_length] at hS
          have hok := doLs_ok more (M := 1099511627816) (by omega) HOK.out HA2.out
          have hri := hid (robs_i (by omega) hok).2
          have hln := hid (show (doLs rs1 more).length ≤ 20 by rw [doLs_len]; exact hlen.out)
          have HS := hid hS
          clear hok hS
          go_wp2_with fail
          refine (dbytes_any HS.out.dd hmI (robs_i (by omega) HOK.out).2 (by have := hlen.out; omega) (he.below HS.out.s.below)).mono ?_
          rintro e w8 ⟨rfl, hB8⟩
          have S8 := hid (HS.out.step hB8)
          clear hB8 HS
          go_wp2_with fail
          go_loopw [19] (fun i wr => ∃ k : Nat, k ≤ more.length ∧ i = .int .i64 k ∧ S3 w xd nd vd xa na va xb nb vb me (doLs rs1 (more.take k)) (doLs rs1 more) (doLs rs1 more) wr) (fun i _ => more.length - (intOf i).toNat)
          case atStart => exact ⟨0, by omega, rfl, by simpa [doLs] using S8.out⟩
          case round =>
            clear S8
            obtain ⟨k, hk, rfl, hS⟩ := hrel
            by_cases hlt : k < more.length
            · have hop := ho.op hlt
              have hst := hid (take_doLs rs1 more k hlt)
              have hok := doLs_ok (more.take k) (M := 1099511627816) (by omega) HOK.out (fun o ho => HA2.out o (List.mem_of_mem_take ho))
              rw [List.length_take, Nat.min_eq_left (Nat.le_of_lt hlt)] at hok
              have hno := hid (robs_i (by omega) hok).1
              clear hok
              generalize more[k] = o at *
              obtain ⟨d, ⟨pk, pi, pn⟩, tk⟩ := o
              obtain ⟨b, off, rfl, hbB, g1, g2, g3, g4, g5, i1, i2, i3⟩ := hop
              simp only at g1 g2 g3 g4 g5 i1 i2 i3
              have G1 := hid g1; have G2 := hid g2; have G3 := hid g3; have G4 := hid g4; have G5 := hid g5
              clear g1 g2 g3 g4 g5
              have hlt' : (k : Int) < more.length := by omega
              have HS := hid hS
              clear hS
              have g1 := (bcell HS.out.s.below b _ hbB).trans G1.out
              have g2 := (bcell HS.out.s.below b _ hbB).trans G2.out
              have g3 := (bcell HS.out.s.below b _ hbB).trans G3.out
              have g4 := (bcell HS.out.s.below b _ hbB).trans G4.out
              have g5 := (bcell HS.out.s.below b _ hbB).trans G5.out
              go_wp2_with fail
              refine (do_any HS.out.dd d pk pi pn tk hno.out).mono ?_
              rintro e w9 ⟨rfl, hD9, hg9⟩
              rw [← hst.out] at hD9
              have S9 := hid (HS.out.sd hD9 hg9)
              clear g1 g2 g3 g4 g5 hD9 hg9 HS G1 G2 G3 G4 G5
              go_wp2_with fail
              go_roundw
              case rel => exact ⟨k + 1, by omega, by go_num, S9.out⟩
              case measure => simp [intOf]; omega
            · obtain rfl : k = more.length := by omega
              rw [List.take_length] at hS
              have HS := hid hS
              clear hS
              go_wp2_with fail
              refine (rdesk_any me rs1 _ HME.out (fun r hr => (HOK.out r hr).mono (by omega)) (by have := hlen.out; omega) (he.below HS.out.s.below)).mono ?_
              rintro e w9 ⟨nc, vc, rfl, hnc, _, hB9⟩
              have S9 := hid (HS.out.step hB9)
              clear hB9 HS
              go_wp2_with fail
              refine (dbytes_any S9.out.dd hmI hri.out (by have := hln.out; omega) (he.below S9.out.s.below)).mono ?_
              rintro e w10 ⟨rfl, hB10⟩
              have S10 := hid (S9.out.step hB10)
              clear hB10 S9
              go_wp2_with fail
              refine (dbytes_any S10.out.s.da hmI hri.out (by have := hln.out; omega) (he.below S10.out.s.below)).mono ?_
              rintro e w11 ⟨rfl, hB11⟩
              have S11 := hid (S10.out.step hB11)
              clear hB11 S10
              go_wp2_with fail
              go_ret
              exact ⟨rfl, S11.out.s.below⟩
end Go.Proofs.YtnnephifjikkdaaDoor
