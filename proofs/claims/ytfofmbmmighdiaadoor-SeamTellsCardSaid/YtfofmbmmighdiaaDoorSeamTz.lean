
/- THE LAW: every result, the phases, the numbers and the encoding of a desk are those of the reference, and what ReadPass and Read accept: SeamTells returns true for every input. Condition: the listed package-level variables of Go's library hold what its text lays; the card ties them. -/
import Derived.Test.YtfofmbmmighdiaaDoorSeamR
import Derived.Test.YtfofmbmmighdiaaDoorSeamTp
import Derived.Test.YtfofmbmmighdiaaDoorSeamRa
import Derived.Test.YtfofmbmmighdiaaDoorSeamRcn
import Derived.Deep.CutBlock
import Derived.Test.YtfofmbmmighdiaaDoorSeamRe
import Derived.Test.YtfofmbmmighdiaaDoorSeamRf
import Derived.Test.YtfofmbmmighdiaaDoorSeamRg
import Derived.Test.YtfofmbmmighdiaaDoorSeamRi
import Derived.Test.YtfofmbmmighdiaaDoorSeamRj
import Derived.Test.YtfofmbmmighdiaaDoorSeamRk
import Derived.Test.YtfofmbmmighdiaaDoorSeamOw
set_option linter.unusedSimpArgs false
set_option linter.unusedVariables false
namespace Go.Proofs.YtfofmbmmighdiaaDoor
open Go.RowKit Go.IntWalk

theorem offerL_len (rs : List Rob) (i : Int) : (offerL rs i).1.length = rs.length := by
  unfold offerL; split
  · rfl
  · split
    · rfl
    · simp [setR_len]
theorem hearL_len (rs : List Rob) (p : Pas) (t : Bool) : (hearL rs p t).1.length = rs.length := by
  unfold hearL; split
  · rfl
  · split
    · simp [setR_len]
    · split
      · simp [setR_len]
      · split
        · simp [setR_len]
        · rfl
abbrev put3 (w : World) (g : Nat) (p : Pas) : World := ((w.setCell ⟨g, 0, none⟩ (.int .i64 p.1)).setCell ⟨g, 1, none⟩ (.int .i64 p.2.1)).setCell ⟨g, 2, none⟩ (.int .i64 p.2.2)
abbrev pas (p : Pas) : Array Value := #[.int .i64 p.1, .int .i64 p.2.1, .int .i64 p.2.2]
theorem put3_blk {w : World} {g : Nat} {t : TypeId} {q : Pas} (h : Blk w g t (pas q)) (p : Pas) : Blk (put3 w g p) g t (pas p) := by
  have := ((h.set_ 0 (.int .i64 p.1)).set_ 1 (.int .i64 p.2.1)).set_ 2 (.int .i64 p.2.2)
  simpa using this
theorem put3_grown (w : World) (g : Nat) (p : Pas) : w.grownBy (put3 w g p) (some g) :=
  grown_tr (grown_tr (grown_s w g 0 _) (grown_s _ g 1 _)) (grown_s _ g 2 _)
/-- The state of a round: the desk, the reference's desk, the call's box, the two passes' boxes. -/
structure T5 (w : World) (xd nd : Nat) (vd : Value) (xr nr : Nat) (vr : Value) (me : Int) (rs rr : List Rob) (gq : Nat) (q : Array Value) (g2 g3 : Nat) (p2 p3 : Pas) (wx : World) : Prop where
  below : Below w.heap.size w wx
  ld : w.heap.size ≤ xd
  lr : w.heap.size ≤ xr
  l2 : w.heap.size ≤ g2
  l3 : w.heap.size ≤ g3
  dd : Dk wx xd nd vd me rs
  dr : Dr wx xr nr vr me rr
  bq : Blk wx gq 40 q
  b2 : Blk wx g2 27 (pas p2)
  b3 : Blk wx g3 27 (pas p3)
  ne : g2 ≠ g3
section
variable {w wx wy : World} {xd nd : Nat} {vd : Value} {xr nr : Nat} {vr : Value} {me : Int} {rs rr rs' : List Rob} {gq : Nat} {q : Array Value} {g2 g3 : Nat} {p2 p3 : Pas}
theorem T5.step (h : T5 w xd nd vd xr nr vr me rs rr gq q g2 g3 p2 p3 wx) (hb : Below wx.heap.size wx wy) : T5 w xd nd vd xr nr vr me rs rr gq q g2 g3 p2 p3 wy :=
  ⟨h.below.trans (hb.mono h.below.size), h.ld, h.lr, h.l2, h.l3, h.dd.below hb, h.dr.below hb, h.bq.below hb h.bq.lt, h.b2.below hb h.b2.lt, h.b3.below hb h.b3.lt, h.ne⟩
theorem T5.alloc (h : T5 w xd nd vd xr nr vr me rs rr gq q g2 g3 p2 p3 wx) (o : Obj) : T5 w xd nd vd xr nr vr me rs rr gq q g2 g3 p2 p3 (wx.alloc o) := h.step (by (repeat (first | exact Below.refl _ _ | assumption | refine below_drewN ?_ _ | refine Below.drew ?_ | refine Below.alloc ?_ (by (try simp); (try omega)) _ | refine Below.setCell ?_ (by (try simp); (try omega)) _)))
theorem T5.d (h : T5 w xd nd vd xr nr vr me rs rr gq q g2 g3 p2 p3 wx) (hd : Dk wy xd nd vd me rs') (hg : wx.grownBy wy vd.ownBlock) : T5 w xd nd vd xr nr vr me rs' rr gq q g2 g3 p2 p3 wy :=
  ⟨h.dd.low h.below h.ld hg, h.ld, h.lr, h.l2, h.l3, hd, h.dr.beside h.dd hg, h.bq.grown hg (fun e => own_blk_ne h.dd.r h.bq (by decide) e.symm), h.b2.grown hg (fun e => own_blk_ne h.dd.r h.b2 (by decide) e.symm), h.b3.grown hg (fun e => own_blk_ne h.dd.r h.b3 (by decide) e.symm), h.ne⟩
theorem T5.r (h : T5 w xd nd vd xr nr vr me rs rr gq q g2 g3 p2 p3 wx) (hd : Dr wy xr nr vr me rs') (hg : wx.grownBy wy vr.ownBlock) : T5 w xd nd vd xr nr vr me rs rs' gq q g2 g3 p2 p3 wy :=
  ⟨h.dr.low h.below h.lr hg, h.ld, h.lr, h.l2, h.l3, h.dd.aside h.dr hg, hd, h.bq.grown hg (fun e => own_blk_ne h.dr.r h.bq (by decide) e.symm), h.b2.grown hg (fun e => own_blk_ne h.dr.r h.b2 (by decide) e.symm), h.b3.grown hg (fun e => own_blk_ne h.dr.r h.b3 (by decide) e.symm), h.ne⟩
theorem T5.s2 (h : T5 w xd nd vd xr nr vr me rs rr gq q g2 g3 p2 p3 wx) (p : Pas) : T5 w xd nd vd xr nr vr me rs rr gq q g2 g3 p p3 (put3 wx g2 p) := by
  have hg := put3_grown wx g2 p
  refine ⟨h.below.grown hg h.below.size (fun j hj => by injection hj with hj; subst hj; exact h.l2), h.ld, h.lr, h.l2, h.l3, h.dd.grown hg (.inr (own_blk_ne h.dd.r h.b2 (by decide))) (fun e => ?_), h.dr.grown hg (.inr (own_blk_ne h.dr.r h.b2 (by decide))) (fun e => ?_), h.bq.grown hg (fun e => ?_), put3_blk h.b2 p, h.b3.grown hg (fun e => ?_), h.ne⟩
  · injection e with e; subst e; exact Blk.ne_ h.dd.d h.b2 (by decide) rfl
  · injection e with e; subst e; exact Blk.ne_ h.dr.d h.b2 (by decide) rfl
  · injection e with e; subst e; exact Blk.ne_ h.bq h.b2 (by decide) rfl
  · injection e with e; exact h.ne e.symm
theorem T5.s3 (h : T5 w xd nd vd xr nr vr me rs rr gq q g2 g3 p2 p3 wx) (p : Pas) : T5 w xd nd vd xr nr vr me rs rr gq q g2 g3 p2 p (put3 wx g3 p) := by
  have hg := put3_grown wx g3 p
  refine ⟨h.below.grown hg h.below.size (fun j hj => by injection hj with hj; subst hj; exact h.l3), h.ld, h.lr, h.l2, h.l3, h.dd.grown hg (.inr (own_blk_ne h.dd.r h.b3 (by decide))) (fun e => ?_), h.dr.grown hg (.inr (own_blk_ne h.dr.r h.b3 (by decide))) (fun e => ?_), h.bq.grown hg (fun e => ?_), h.b2.grown hg (fun e => ?_), put3_blk h.b3 p, h.ne⟩
  · injection e with e; subst e; exact Blk.ne_ h.dd.d h.b3 (by decide) rfl
  · injection e with e; subst e; exact Blk.ne_ h.dr.d h.b3 (by decide) rfl
  · injection e with e; subst e; exact Blk.ne_ h.bq h.b3 (by decide) rfl
  · injection e with e; exact h.ne e
/-- The desk is replaced by another one. -/
theorem T5.swap {xe ne_ : Nat} {ve : Value} (h : T5 w xd nd vd xr nr vr me rs rr gq q g2 g3 p2 p3 wx) (hb : Below wx.heap.size wx wy) (hx : wx.heap.size ≤ xe) (hd : Dk wy xe ne_ ve me rs') : T5 w xe ne_ ve xr nr vr me rs' rr gq q g2 g3 p2 p3 wy := by
  have := h.step hb
  exact ⟨this.below, Nat.le_trans h.below.size hx, h.lr, h.l2, h.l3, hd, this.dr, this.bq, this.b2, this.b3, h.ne⟩
theorem T5.new (hB : Below w.heap.size w wx) (h1 : w.heap.size ≤ xd) (h2 : w.heap.size ≤ xr) (hd : Dk wx xd nd vd me rs) (hr : Dr wx xr nr vr me rs) (q : Array Value) :
    T5 w xd nd vd xr nr vr me rs rs wx.heap.size q (wx.heap.size + 1) (wx.heap.size + 1 + 1) (0, 0, 0) (0, 0, 0) (((wx.alloc (.cells q 40)).alloc (.cells (pas (0, 0, 0)) 27)).alloc (.cells (pas (0, 0, 0)) 27)) := by
  have hs := hB.size
  refine ⟨?_, h1, h2, by omega, by omega, ((hd.alloc _).alloc _).alloc _, ((hr.alloc _).alloc _).alloc _, ((Blk.new _ _ _).alloc _).alloc _, (Blk.new_at (by simp)).alloc _, Blk.new_at (by simp), by omega⟩
  exact ((hB.alloc hs _).alloc (by simp; omega) _).alloc (by simp; omega) _
/-- What each way through the switch leaves. -/
def CutT (w : World) (xr nr : Nat) (vr : Value) (me M : Int) (gq : Nat) (q : Array Value) (g2 g3 : Nat) (d i1 i2 e1 e2 : Value) (wx : World) : Prop :=
  ∃ (xd nd : Nat) (vd : Value) (rs1 : List Rob) (p : Pas) (is : Bool) (e : Int), d = .pointer (some ⟨nd, 0, none⟩) ∧ i1 = .bool is ∧ i2 = .bool is ∧ e1 = .int .i64 e ∧ e2 = .int .i64 e ∧
    T5 w xd nd vd xr nr vr me rs1 rs1 gq q g2 g3 p p wx ∧ (∀ r ∈ rs1, RobOK M r) ∧ rs1.length ≤ 200
theorem box5 {g : Nat} {t : TypeId} {x y z u v : Value} (h : Blk w g t #[x, y, z, u, v]) : w.cell? ⟨g, 0, none⟩ = some x ∧ w.cell? ⟨g, 1, none⟩ = some y ∧ w.cell? ⟨g, 2, none⟩ = some z ∧ w.cell? ⟨g, 3, none⟩ = some u ∧ w.cell? ⟨g, 4, none⟩ = some v := ⟨h.cell 0, h.cell 1, h.cell 2, h.cell 3, h.cell 4⟩
end
theorem rhear_eq {w : World} {base b : Nat} {v : Value} {me M : Int} {rs : List Rob} (h : Dr w base b v me rs) (hM : 0 ≤ M) (hok : ∀ r ∈ rs, RobOK M r) (k i n : Int) (take : Bool) :
    Calls Tryd.prog 23 #[.pointer (some ⟨b, 0, none⟩), .agg #[.int .i64 k, .int .i64 i, .int .i64 n], .bool take] w (RHearRes w base b v me (hearL rs (k, i, n) take)) := by
  have := rhear_any h k i n take
  rwa [hearR_eq hM hok] at this
end Go.Proofs.YtfofmbmmighdiaaDoor
namespace Go.Proofs.YtfofmbmmighdiaaDoor
open Go.RowKit Go.IntWalk

noncomputable def seqR9 : Code → Code
  | .seq _ b => b
  | c => c
noncomputable def seqL9 : Code → Code
  | .seq a _ => a
  | c => c
noncomputable def tellsRest : Code := seqR9 (seqR9 (seqR9 (seqR9 (seqR9 (seqR9 (seqR9 (seqR9 (seqR9 (seqR9 (seqR9 (seqR9 (Tryd.f3.body.getD .skip))))))))))))
noncomputable def tellsLoop : Code := seqR9 (seqL9 tellsRest)
noncomputable def tellsEnd : Code := seqR9 tellsRest
set_option maxRecDepth 100000 in
set_option maxHeartbeats 4000000 in
theorem stells_loop (me : Int) (Am : Option Addr) (cm : Nat) (mine : List Bool) (Al : Option Addr) (cl : Nat) (l : List Opp) (s : ByteArray) (w w10 : World) (hll' : Hid (l.length ≤ maxLen)) (hlk : (l.length : Int) ≤ 60)
    (hs : SlR w w.heap.size Al l) (he : Env w) (HA1 : Hid (∀ o ∈ l, -1099511627776 ≤ o.2.1.2.2 ∧ o.2.1.2.2 ≤ 1099511627776)) (rs0 : List Rob) (nd nr xd0 xr : Nat) (vd vr : Value) (HME : Hid (me = 0 ∨ me = 1)) (HOK0 : Hid (∀ r ∈ rs0, RobOK 1099511627776 r)) (HLN0 : Hid (rs0.length ≤ 200))
    (hz1 : Hid (w.heap.size ≤ xd0)) (hz2 : Hid (w.heap.size ≤ xr)) (D10 : Hid (Dk w10 xd0 nd vd me rs0)) (R10 : Hid (Dr w10 xr nr vr me rs0)) (B10 : Hid (Below w.heap.size w w10))
    {v4 v5 v6 v7 v8 v10 v11 v12 v13 v14 v15 v16 v17 v21 v22 v23 v24 v25 v26 v27 v28 v29 v30 v31 v32 v33 v34 v35 v36 v37 v38 v39 v40 v41 v42 v43 v44 v45 v46 v47 v48 v49 v50 v51 v52 v53 v54 v55 v56 v57 v58 v59 v60 v61 v62 v63 v64 v65 v66 v67 v68 v69 v70 v71 v72 v73 v74 v75 v76 v77 v78 v79 v80 v81 v82 v83 v84 v85 v86 v87 v88 v89 v90 v91 v92 v93 v94 v95 v96 v97 v98 v99 v100 v101 v102 v103 v104 v105 v106 v107 v108 v109 v110 v111 v112 v113 v114 v115 v116 v117 v118 v119 v120 v121 v122 v123 v124 v125 v126 v127 v128 v129 v130 v131 v132 v133 v134 v135 v136 v137 v138 v139 v140 v141 v142 v143 v144 v145 v146 v147 v148 v149 v150 v151 v152 v153 v154 v155 v156 v157 v158 v159 v160 v161 v162 v163 v164 v165 v166 v167 v168 v169 v170 v171 v172 v173 v174 v175 v176 v177 v178 v179 v180 v181 v182 v183 v184 v185 v186 v187 v188 v189 v190 v191 v192 v193 v194 v195 v196 v197 v198 v199 v200 v201 v202 v203 v204 v205 v206 v207 v208 v209 v210 v211 v212 v213 v214 v215 v216 v217 v218 v219 v220 v221 v222 v223 v224 v225 v226 v227 v228 v229 v230 v231 v232 v233 v234 v235 v236 v237 v238 v239 v240 v241 v242 v243 v244 v245 v246 v247 v248 v249 v250 v251 v252 v253 v254 v255 v256 v257 v258 v259 v260 v261 v262 v263 v264 v265 v266 v267 v268 v269 v270 v271 v272 v273 v274 v275 : Value} (K : Act → World → Prop) (hK : ∀ (a : Act) (w' : World), tellsEnd.wp Tryd.prog (bodyPost Tryd.prog Tryd.f3 fun e w' => e = .returned (.bool true) ∧ Below w.heap.size w w') a w' → K a w') :
    tellsLoop.wp Tryd.prog (Exit.then K (bodyPost Tryd.prog Tryd.f3 fun e w' => e = .returned (.bool true) ∧ Below w.heap.size w w')) { tmps := #[.int .i64 me, .slice Am mine.length cm, .slice Al l.length cl, .string s, v4, v5, v6, v7, v8, .bool true, v10, v11, v12, v13, v14, v15, v16, v17, .pointer (some ⟨nd, 0, none⟩), .pointer (some ⟨nr, 0, none⟩), .int .i64 0, v21, v22, v23, v24, v25, v26, v27, v28, v29, v30, v31, v32, v33, v34, v35, v36, v37, v38, v39, v40, v41, v42, v43, v44, v45, v46, v47, v48, v49, v50, v51, v52, v53, v54, v55, v56, v57, v58, v59, v60, v61, v62, v63, v64, v65, v66, v67, v68, v69, v70, v71, v72, v73, v74, v75, v76, v77, v78, v79, v80, v81, v82, v83, v84, v85, v86, v87, v88, v89, v90, v91, v92, v93, v94, v95, v96, v97, v98, v99, v100, v101, v102, v103, v104, v105, v106, v107, v108, v109, v110, v111, v112, v113, v114, v115, v116, v117, v118, v119, v120, v121, v122, v123, v124, v125, v126, v127, v128, v129, v130, v131, v132, v133, v134, v135, v136, v137, v138, v139, v140, v141, v142, v143, v144, v145, v146, v147, v148, v149, v150, v151, v152, v153, v154, v155, v156, v157, v158, v159, v160, v161, v162, v163, v164, v165, v166, v167, v168, v169, v170, v171, v172, v173, v174, v175, v176, v177, v178, v179, v180, v181, v182, v183, v184, v185, v186, v187, v188, v189, v190, v191, v192, v193, v194, v195, v196, v197, v198, v199, v200, v201, v202, v203, v204, v205, v206, v207, v208, v209, v210, v211, v212, v213, v214, v215, v216, v217, v218, v219, v220, v221, v222, v223, v224, v225, v226, v227, v228, v229, v230, v231, v232, v233, v234, v235, v236, v237, v238, v239, v240, v241, v242, v243, v244, v245, v246, v247, v248, v249, v250, v251, v252, v253, v254, v255, v256, v257, v258, v259, v260, v261, v262, v263, v264, v265, v266, v267, v268, v269, v270, v271, v272, v273, v274, v275], defers := [] } w10 := by
  generalize hQ : (bodyPost Tryd.prog Tryd.f3 fun e w' => e = .returned (.bool true) ∧ Below w.heap.size w w') = Q9 at hK ⊢
  unfold tellsLoop tellsRest Tryd.f3
  unfold tellsEnd tellsRest Tryd.f3 at hK
  simp only [seqR9, seqL9, Option.getD_some] at hK ⊢
  subst hQ
  have hll := hll'.out
  unfold maxLen at hll
  go_wp2_with fail
  go_loopw [18, 20] (fun d i wr => ∃ (k xd nd : Nat) (vd : Value) (rs : List Rob), k ≤ l.length ∧ i = .int .i64 k ∧ d = .pointer (some ⟨nd, 0, none⟩) ∧ w.heap.size ≤ xd ∧ Dk wr xd nd vd me rs ∧ Dr wr xr nr vr me rs ∧ (∀ r ∈ rs, RobOK (1099511627776 + k) r) ∧ rs.length ≤ 200 ∧ Below w.heap.size w wr) (fun _ i _ => l.length - (intOf i).toNat)
  case atStart => exact ⟨0, xd0, nd, vd, rs0, by omega, rfl, rfl, hz1.out, D10.out, R10.out, fun r hr => (HOK0.out r hr).mono (by omega), HLN0.out, B10.out⟩
  case round =>
    clear D10 R10 B10 HOK0 HLN0 hz1
    obtain ⟨k, xd, nd, vd, rs, hk, rfl, rfl, hlx, hD, hR, hok, hln, hB⟩ := hrel
    have hmI : I64 me := by rcases HME.out with h | h <;> (subst h; simp [I64])
    have HOK := hid hok
    have HLN := hid hln
    have HNO := hid (robs_i (by omega) hok).1
    clear hok hln
    by_cases hlt : k < l.length
    · have hop := hs.op hlt
      have hp40 := HA1.out _ (List.getElem_mem hlt)
      generalize l[k] = o at *
      obtain ⟨d, ⟨pk, pi, pn⟩, tk⟩ := o
      obtain ⟨b, off, rfl, hbB, g1, g2, g3, g4, g5, i1, i2, i3⟩ := hop
      simp only at g1 g2 g3 g4 g5 i1 i2 i3 hp40
      replace g1 := (bcell hB b _ hbB).trans g1
      replace g2 := (bcell hB b _ hbB).trans g2
      replace g3 := (bcell hB b _ hbB).trans g3
      replace g4 := (bcell hB b _ hbB).trans g4
      replace g5 := (bcell hB b _ hbB).trans g5
      have hbz : b < wr.heap.size := by have := hB.size; omega
      have hlt' : (k : Int) < l.length := by omega
      have T3 := hid (T5.new hB hlx hz2.out hD hR #[.int .i64 d, .int .i64 pk, .int .i64 pi, .int .i64 pn, .bool tk])
      clear hB hD hR hlx
      go_upto_region 27 with fail
      clear g1 g2 g3 g4 g5 hbz hlt'
      generalize wr.heap.size = gq at *
      generalize hW3 : ((wr.alloc (Obj.cells #[.int .i64 d, .int .i64 pk, .int .i64 pi, .int .i64 pn, .bool tk] 40)).alloc (Obj.cells (pas (0, 0, 0)) 27)).alloc (Obj.cells (pas (0, 0, 0)) 27) = w3_ at T3
      simp only [pas] at hW3
      (first | rw [hW3] | skip)
      clear hW3
      have d0 := (T3.out.dd.d).cell 0; have d1 := (T3.out.dd.d).cell 1; have s0 := (T3.out.dr.d).cell 0; have s1 := (T3.out.dr.d).cell 1
      obtain ⟨q0, q1, q2, q3, q4⟩ := box5 T3.out.bq
      obtain ⟨a0, a1, a2⟩ := box3 T3.out.b2
      obtain ⟨b0, b1, b2⟩ := box3 T3.out.b3
      have fa0 := T3.out.b2.frozen 0; have fa1 := T3.out.b2.frozen 1; have fa2 := T3.out.b2.frozen 2; have fb0 := T3.out.b3.frozen 0; have fb1 := T3.out.b3.frozen 1; have fb2 := T3.out.b3.frozen 2
      have zq := T3.out.bq.lt; have za := T3.out.b2.lt; have zb := T3.out.b3.lt; have zd := T3.out.dd.d.lt; have zr := T3.out.dr.d.lt
      have n23 := T3.out.ne
      go_upto_block 2 with fail
      clear n23 d0 d1 s0 s1 q0 q1 q2 q3 q4 a0 a1 a2 b0 b1 b2 fa0 fa1 fa2 fb0 fb1 fb2 zq za zb zd zr
      generalize bits .and .i64 d 7 = o7
      go_cut [18, 24, 25, 26, 27] (fun d_ i1 i2 e1 e2 wx => CutT w xr nr vr me (1099511627776 + k + 1) gq #[.int .i64 d, .int .i64 pk, .int .i64 pi, .int .i64 pn, .bool tk] (gq + 1) (gq + 1 + 1) d_ i1 i2 e1 e2 wx)
      case first =>
        by_cases hk0 : o7 = 0
        · as_aux_lemma =>
            subst hk0
            have hok1 := hid (offerL_ok (by omega) HOK.out pi)
            have hln1 := hid (show (offerL rs pi).1.length ≤ 200 by rw [offerL_len]; exact HLN.out)
            have hc1 := hid (offer_any T3.out.dd pi HNO.out)
            have hc2 := hid (fun (W : World) (vr_ : Value) (h : Dr W xr nr vr_ me rs) => roffer_any h pi HNO.out)
            generalize hrr : offerL rs pi = rr at hok1 hln1 hc1 hc2
            obtain ⟨rs1, ⟨pa, pb, pc⟩, e1⟩ := rr
            clear hrr
            have HOK1 := hok1
            have HLN1 := hln1
            clear hok1 hln1
            have d0 := (T3.out.dd.d).cell 0; have d1 := (T3.out.dd.d).cell 1; have s0 := (T3.out.dr.d).cell 0; have s1 := (T3.out.dr.d).cell 1
            obtain ⟨q0, q1, q2, q3, q4⟩ := box5 T3.out.bq
            obtain ⟨a0, a1, a2⟩ := box3 T3.out.b2
            obtain ⟨b0, b1, b2⟩ := box3 T3.out.b3
            have fa0 := T3.out.b2.frozen 0; have fa1 := T3.out.b2.frozen 1; have fa2 := T3.out.b2.frozen 2; have fb0 := T3.out.b3.frozen 0; have fb1 := T3.out.b3.frozen 1; have fb2 := T3.out.b3.frozen 2
            have zq := T3.out.bq.lt; have za := T3.out.b2.lt; have zb := T3.out.b3.lt; have zd := T3.out.dd.d.lt; have zr := T3.out.dr.d.lt
            have n23 := T3.out.ne
            go_wp2_with fail
            refine hc1.out.mono ?_
            clear n23 d0 d1 s0 s1 q0 q1 q2 q3 q4 a0 a1 a2 b0 b1 b2 fa0 fa1 fa2 fb0 fb1 fb2 zq za zb zd zr
            clear hc1
            rintro e w8 ⟨rfl, hD8, hg8⟩
            have T4 := hid (T3.out.d hD8 hg8)
            have T5_ := hid (T4.out.s2 (pa, pb, pc))
            clear hD8 hg8 T3
            have d0 := (T4.out.dd.d).cell 0; have d1 := (T4.out.dd.d).cell 1; have s0 := (T4.out.dr.d).cell 0; have s1 := (T4.out.dr.d).cell 1
            obtain ⟨q0, q1, q2, q3, q4⟩ := box5 T4.out.bq
            obtain ⟨a0, a1, a2⟩ := box3 T4.out.b2
            obtain ⟨b0, b1, b2⟩ := box3 T4.out.b3
            have fa0 := T4.out.b2.frozen 0; have fa1 := T4.out.b2.frozen 1; have fa2 := T4.out.b2.frozen 2; have fb0 := T4.out.b3.frozen 0; have fb1 := T4.out.b3.frozen 1; have fb2 := T4.out.b3.frozen 2
            have zq := T4.out.bq.lt; have za := T4.out.b2.lt; have zb := T4.out.b3.lt; have zd := T4.out.dd.d.lt; have zr := T4.out.dr.d.lt
            have n23 := T4.out.ne
            go_wp2_with fail
            refine (hc2.out _ _ T5_.out.dr).mono ?_
            clear n23 d0 d1 s0 s1 q0 q1 q2 q3 q4 a0 a1 a2 b0 b1 b2 fa0 fa1 fa2 fb0 fb1 fb2 zq za zb zd zr
            clear hc2 T4
            rintro e w9 ⟨rfl, hD9, hg9⟩
            have T6 := hid (T5_.out.r hD9 hg9)
            have TE := hid (T6.out.s3 (pa, pb, pc))
            clear hD9 hg9 T5_
            have d0 := (T6.out.dd.d).cell 0; have d1 := (T6.out.dd.d).cell 1; have s0 := (T6.out.dr.d).cell 0; have s1 := (T6.out.dr.d).cell 1
            obtain ⟨q0, q1, q2, q3, q4⟩ := box5 T6.out.bq
            obtain ⟨a0, a1, a2⟩ := box3 T6.out.b2
            obtain ⟨b0, b1, b2⟩ := box3 T6.out.b3
            have fa0 := T6.out.b2.frozen 0; have fa1 := T6.out.b2.frozen 1; have fa2 := T6.out.b2.frozen 2; have fb0 := T6.out.b3.frozen 0; have fb1 := T6.out.b3.frozen 1; have fb2 := T6.out.b3.frozen 2
            have zq := T6.out.bq.lt; have za := T6.out.b2.lt; have zb := T6.out.b3.lt; have zd := T6.out.dd.d.lt; have zr := T6.out.dr.d.lt
            have n23 := T6.out.ne
            go_wp2_with fail
            go_meet
            exact ⟨_, _, _, rs1, (pa, pb, pc), _, _, rfl, rfl, rfl, rfl, rfl, TE.out, HOK1.out, HLN1.out⟩

        by_cases hk1 : o7 = 1
        · as_aux_lemma =>
            subst hk1
            have hok1 := hid (offerL_ok (by omega) HOK.out pi)
            have hln1 := hid (show (offerL rs pi).1.length ≤ 200 by rw [offerL_len]; exact HLN.out)
            have hc1 := hid (offer_any T3.out.dd pi HNO.out)
            have hc2 := hid (fun (W : World) (vr_ : Value) (h : Dr W xr nr vr_ me rs) => roffer_any h pi HNO.out)
            generalize hrr : offerL rs pi = rr at hok1 hln1 hc1 hc2
            obtain ⟨rs1, ⟨pa, pb, pc⟩, e1⟩ := rr
            clear hrr
            have HOK1 := hok1
            have HLN1 := hln1
            clear hok1 hln1
            have d0 := (T3.out.dd.d).cell 0; have d1 := (T3.out.dd.d).cell 1; have s0 := (T3.out.dr.d).cell 0; have s1 := (T3.out.dr.d).cell 1
            obtain ⟨q0, q1, q2, q3, q4⟩ := box5 T3.out.bq
            obtain ⟨a0, a1, a2⟩ := box3 T3.out.b2
            obtain ⟨b0, b1, b2⟩ := box3 T3.out.b3
            have fa0 := T3.out.b2.frozen 0; have fa1 := T3.out.b2.frozen 1; have fa2 := T3.out.b2.frozen 2; have fb0 := T3.out.b3.frozen 0; have fb1 := T3.out.b3.frozen 1; have fb2 := T3.out.b3.frozen 2
            have zq := T3.out.bq.lt; have za := T3.out.b2.lt; have zb := T3.out.b3.lt; have zd := T3.out.dd.d.lt; have zr := T3.out.dr.d.lt
            have n23 := T3.out.ne
            go_wp2_with fail
            refine hc1.out.mono ?_
            clear n23 d0 d1 s0 s1 q0 q1 q2 q3 q4 a0 a1 a2 b0 b1 b2 fa0 fa1 fa2 fb0 fb1 fb2 zq za zb zd zr
            clear hc1
            rintro e w8 ⟨rfl, hD8, hg8⟩
            have T4 := hid (T3.out.d hD8 hg8)
            have T5_ := hid (T4.out.s2 (pa, pb, pc))
            clear hD8 hg8 T3
            have d0 := (T4.out.dd.d).cell 0; have d1 := (T4.out.dd.d).cell 1; have s0 := (T4.out.dr.d).cell 0; have s1 := (T4.out.dr.d).cell 1
            obtain ⟨q0, q1, q2, q3, q4⟩ := box5 T4.out.bq
            obtain ⟨a0, a1, a2⟩ := box3 T4.out.b2
            obtain ⟨b0, b1, b2⟩ := box3 T4.out.b3
            have fa0 := T4.out.b2.frozen 0; have fa1 := T4.out.b2.frozen 1; have fa2 := T4.out.b2.frozen 2; have fb0 := T4.out.b3.frozen 0; have fb1 := T4.out.b3.frozen 1; have fb2 := T4.out.b3.frozen 2
            have zq := T4.out.bq.lt; have za := T4.out.b2.lt; have zb := T4.out.b3.lt; have zd := T4.out.dd.d.lt; have zr := T4.out.dr.d.lt
            have n23 := T4.out.ne
            go_wp2_with fail
            refine (hc2.out _ _ T5_.out.dr).mono ?_
            clear n23 d0 d1 s0 s1 q0 q1 q2 q3 q4 a0 a1 a2 b0 b1 b2 fa0 fa1 fa2 fb0 fb1 fb2 zq za zb zd zr
            clear hc2 T4
            rintro e w9 ⟨rfl, hD9, hg9⟩
            have T6 := hid (T5_.out.r hD9 hg9)
            have TE := hid (T6.out.s3 (pa, pb, pc))
            clear hD9 hg9 T5_
            have d0 := (T6.out.dd.d).cell 0; have d1 := (T6.out.dd.d).cell 1; have s0 := (T6.out.dr.d).cell 0; have s1 := (T6.out.dr.d).cell 1
            obtain ⟨q0, q1, q2, q3, q4⟩ := box5 T6.out.bq
            obtain ⟨a0, a1, a2⟩ := box3 T6.out.b2
            obtain ⟨b0, b1, b2⟩ := box3 T6.out.b3
            have fa0 := T6.out.b2.frozen 0; have fa1 := T6.out.b2.frozen 1; have fa2 := T6.out.b2.frozen 2; have fb0 := T6.out.b3.frozen 0; have fb1 := T6.out.b3.frozen 1; have fb2 := T6.out.b3.frozen 2
            have zq := T6.out.bq.lt; have za := T6.out.b2.lt; have zb := T6.out.b3.lt; have zd := T6.out.dd.d.lt; have zr := T6.out.dr.d.lt
            have n23 := T6.out.ne
            go_wp2_with fail
            go_meet
            exact ⟨_, _, _, rs1, (pa, pb, pc), _, _, rfl, rfl, rfl, rfl, rfl, TE.out, HOK1.out, HLN1.out⟩

        by_cases hk2 : o7 = 2
        · as_aux_lemma =>
            subst hk2
            have HOK1 := hid (show ∀ r ∈ rs, RobOK (1099511627776 + k + 1) r from fun r hr => (HOK.out r hr).mono (by omega))
            have HLN1 := HLN
            have hc1 := hid (again_any T3.out.dd pi)
            have hc2 := hid (fun (W : World) (vr_ : Value) (h : Dr W xr nr vr_ me rs) => ragain_any h pi)
            generalize hrr : againL rs pi = rr at hc1 hc2
            obtain ⟨⟨pa, pb, pc⟩, e1⟩ := rr
            clear hrr
            obtain ⟨rs1, hrs1⟩ : ∃ rs1, rs1 = rs := ⟨_, rfl⟩
            subst hrs1
            have d0 := (T3.out.dd.d).cell 0; have d1 := (T3.out.dd.d).cell 1; have s0 := (T3.out.dr.d).cell 0; have s1 := (T3.out.dr.d).cell 1
            obtain ⟨q0, q1, q2, q3, q4⟩ := box5 T3.out.bq
            obtain ⟨a0, a1, a2⟩ := box3 T3.out.b2
            obtain ⟨b0, b1, b2⟩ := box3 T3.out.b3
            have fa0 := T3.out.b2.frozen 0; have fa1 := T3.out.b2.frozen 1; have fa2 := T3.out.b2.frozen 2; have fb0 := T3.out.b3.frozen 0; have fb1 := T3.out.b3.frozen 1; have fb2 := T3.out.b3.frozen 2
            have zq := T3.out.bq.lt; have za := T3.out.b2.lt; have zb := T3.out.b3.lt; have zd := T3.out.dd.d.lt; have zr := T3.out.dr.d.lt
            have n23 := T3.out.ne
            go_wp2_with fail
            refine hc1.out.mono ?_
            clear n23 d0 d1 s0 s1 q0 q1 q2 q3 q4 a0 a1 a2 b0 b1 b2 fa0 fa1 fa2 fb0 fb1 fb2 zq za zb zd zr
            clear hc1
            rintro e w8 ⟨rfl, hB8⟩
            have T4 := hid (T3.out.step hB8)
            have T5_ := hid (T4.out.s2 (pa, pb, pc))
            clear hB8 T3
            have d0 := (T4.out.dd.d).cell 0; have d1 := (T4.out.dd.d).cell 1; have s0 := (T4.out.dr.d).cell 0; have s1 := (T4.out.dr.d).cell 1
            obtain ⟨q0, q1, q2, q3, q4⟩ := box5 T4.out.bq
            obtain ⟨a0, a1, a2⟩ := box3 T4.out.b2
            obtain ⟨b0, b1, b2⟩ := box3 T4.out.b3
            have fa0 := T4.out.b2.frozen 0; have fa1 := T4.out.b2.frozen 1; have fa2 := T4.out.b2.frozen 2; have fb0 := T4.out.b3.frozen 0; have fb1 := T4.out.b3.frozen 1; have fb2 := T4.out.b3.frozen 2
            have zq := T4.out.bq.lt; have za := T4.out.b2.lt; have zb := T4.out.b3.lt; have zd := T4.out.dd.d.lt; have zr := T4.out.dr.d.lt
            have n23 := T4.out.ne
            go_wp2_with fail
            refine (hc2.out _ _ T5_.out.dr).mono ?_
            clear n23 d0 d1 s0 s1 q0 q1 q2 q3 q4 a0 a1 a2 b0 b1 b2 fa0 fa1 fa2 fb0 fb1 fb2 zq za zb zd zr
            clear hc2 T4
            rintro e w9 ⟨rfl, hB9⟩
            have T6 := hid (T5_.out.step hB9)
            have TE := hid (T6.out.s3 (pa, pb, pc))
            clear hB9 T5_
            have d0 := (T6.out.dd.d).cell 0; have d1 := (T6.out.dd.d).cell 1; have s0 := (T6.out.dr.d).cell 0; have s1 := (T6.out.dr.d).cell 1
            obtain ⟨q0, q1, q2, q3, q4⟩ := box5 T6.out.bq
            obtain ⟨a0, a1, a2⟩ := box3 T6.out.b2
            obtain ⟨b0, b1, b2⟩ := box3 T6.out.b3
            have fa0 := T6.out.b2.frozen 0; have fa1 := T6.out.b2.frozen 1; have fa2 := T6.out.b2.frozen 2; have fb0 := T6.out.b3.frozen 0; have fb1 := T6.out.b3.frozen 1; have fb2 := T6.out.b3.frozen 2
            have zq := T6.out.bq.lt; have za := T6.out.b2.lt; have zb := T6.out.b3.lt; have zd := T6.out.dd.d.lt; have zr := T6.out.dr.d.lt
            have n23 := T6.out.ne
            go_wp2_with fail
            go_meet
            exact ⟨_, _, _, rs1, (pa, pb, pc), _, _, rfl, rfl, rfl, rfl, rfl, TE.out, HOK1.out, HLN1.out⟩

        by_cases hk3 : o7 = 3
        · as_aux_lemma =>
            subst hk3
            have HOK1 := hid (show ∀ r ∈ rs, RobOK (1099511627776 + k + 1) r from fun r hr => (HOK.out r hr).mono (by omega))
            have HLN1 := HLN
            obtain ⟨rs1, hrs1⟩ : ∃ rs1, rs1 = rs := ⟨_, rfl⟩
            subst hrs1
            have d0 := (T3.out.dd.d).cell 0; have d1 := (T3.out.dd.d).cell 1; have s0 := (T3.out.dr.d).cell 0; have s1 := (T3.out.dr.d).cell 1
            obtain ⟨q0, q1, q2, q3, q4⟩ := box5 T3.out.bq
            obtain ⟨a0, a1, a2⟩ := box3 T3.out.b2
            obtain ⟨b0, b1, b2⟩ := box3 T3.out.b3
            have fa0 := T3.out.b2.frozen 0; have fa1 := T3.out.b2.frozen 1; have fa2 := T3.out.b2.frozen 2; have fb0 := T3.out.b3.frozen 0; have fb1 := T3.out.b3.frozen 1; have fb2 := T3.out.b3.frozen 2
            have zq := T3.out.bq.lt; have za := T3.out.b2.lt; have zb := T3.out.b3.lt; have zd := T3.out.dd.d.lt; have zr := T3.out.dr.d.lt
            have n23 := T3.out.ne
            go_wp2_with fail
            refine (copy_any T3.out.dd (by have := HLN1.out; omega)).mono ?_
            clear n23 d0 d1 s0 s1 q0 q1 q2 q3 q4 a0 a1 a2 b0 b1 b2 fa0 fa1 fa2 fb0 fb1 fb2 zq za zb zd zr
            rintro e w8 ⟨ne1, ve1, rfl, hnx, hD8, hB8⟩
            have TE := hid (T3.out.swap hB8 (Nat.le_refl _) hD8)
            clear hB8 hD8 T3
            have d0 := (TE.out.dd.d).cell 0; have d1 := (TE.out.dd.d).cell 1; have s0 := (TE.out.dr.d).cell 0; have s1 := (TE.out.dr.d).cell 1
            obtain ⟨q0, q1, q2, q3, q4⟩ := box5 TE.out.bq
            obtain ⟨a0, a1, a2⟩ := box3 TE.out.b2
            obtain ⟨b0, b1, b2⟩ := box3 TE.out.b3
            have fa0 := TE.out.b2.frozen 0; have fa1 := TE.out.b2.frozen 1; have fa2 := TE.out.b2.frozen 2; have fb0 := TE.out.b3.frozen 0; have fb1 := TE.out.b3.frozen 1; have fb2 := TE.out.b3.frozen 2
            have zq := TE.out.bq.lt; have za := TE.out.b2.lt; have zb := TE.out.b3.lt; have zd := TE.out.dd.d.lt; have zr := TE.out.dr.d.lt
            have n23 := TE.out.ne
            go_wp2_with fail
            go_meet
            exact ⟨_, _, _, rs1, (0, 0, 0), _, _, rfl, rfl, rfl, rfl, rfl, TE.out, HOK1.out, HLN1.out⟩

        by_cases hk4 : o7 = 4
        · as_aux_lemma =>
            subst hk4
            have HOK1 := hid (show ∀ r ∈ rs, RobOK (1099511627776 + k + 1) r from fun r hr => (HOK.out r hr).mono (by omega))
            have HLN1 := HLN
            obtain ⟨rs1, hrs1⟩ : ∃ rs1, rs1 = rs := ⟨_, rfl⟩
            subst hrs1
            have d0 := (T3.out.dd.d).cell 0; have d1 := (T3.out.dd.d).cell 1; have s0 := (T3.out.dr.d).cell 0; have s1 := (T3.out.dr.d).cell 1
            obtain ⟨q0, q1, q2, q3, q4⟩ := box5 T3.out.bq
            obtain ⟨a0, a1, a2⟩ := box3 T3.out.b2
            obtain ⟨b0, b1, b2⟩ := box3 T3.out.b3
            have fa0 := T3.out.b2.frozen 0; have fa1 := T3.out.b2.frozen 1; have fa2 := T3.out.b2.frozen 2; have fb0 := T3.out.b3.frozen 0; have fb1 := T3.out.b3.frozen 1; have fb2 := T3.out.b3.frozen 2
            have zq := T3.out.bq.lt; have za := T3.out.b2.lt; have zb := T3.out.b3.lt; have zd := T3.out.dd.d.lt; have zr := T3.out.dr.d.lt
            have n23 := T3.out.ne
            go_wp2_with fail
            refine (dbytes_any T3.out.dd hmI (robs_i (by omega) HOK1.out).2 (by have := HLN1.out; omega) (he.below T3.out.below)).mono ?_
            clear n23 d0 d1 s0 s1 q0 q1 q2 q3 q4 a0 a1 a2 b0 b1 b2 fa0 fa1 fa2 fb0 fb1 fb2 zq za zb zd zr
            rintro e w8 ⟨rfl, hB8⟩
            have T4 := hid (T3.out.step hB8)
            clear hB8 T3
            have d0 := (T4.out.dd.d).cell 0; have d1 := (T4.out.dd.d).cell 1; have s0 := (T4.out.dr.d).cell 0; have s1 := (T4.out.dr.d).cell 1
            obtain ⟨q0, q1, q2, q3, q4⟩ := box5 T4.out.bq
            obtain ⟨a0, a1, a2⟩ := box3 T4.out.b2
            obtain ⟨b0, b1, b2⟩ := box3 T4.out.b3
            have fa0 := T4.out.b2.frozen 0; have fa1 := T4.out.b2.frozen 1; have fa2 := T4.out.b2.frozen 2; have fb0 := T4.out.b3.frozen 0; have fb1 := T4.out.b3.frozen 1; have fb2 := T4.out.b3.frozen 2
            have zq := T4.out.bq.lt; have za := T4.out.b2.lt; have zb := T4.out.b3.lt; have zd := T4.out.dd.d.lt; have zr := T4.out.dr.d.lt
            have n23 := T4.out.ne
            go_wp2_with fail
            refine (rdesk_any me rs1 w8 HME.out (fun r hr => (HOK1.out r hr).mono (by omega)) HLN1.out (he.below T4.out.below)).mono ?_
            clear n23 d0 d1 s0 s1 q0 q1 q2 q3 q4 a0 a1 a2 b0 b1 b2 fa0 fa1 fa2 fb0 fb1 fb2 zq za zb zd zr
            rintro e w9 ⟨ne1, ve1, rfl, hnx, hD9, hB9⟩
            have TE := hid (T4.out.swap hB9 (Nat.le_refl _) hD9)
            clear hB9 hD9 T4
            have d0 := (TE.out.dd.d).cell 0; have d1 := (TE.out.dd.d).cell 1; have s0 := (TE.out.dr.d).cell 0; have s1 := (TE.out.dr.d).cell 1
            obtain ⟨q0, q1, q2, q3, q4⟩ := box5 TE.out.bq
            obtain ⟨a0, a1, a2⟩ := box3 TE.out.b2
            obtain ⟨b0, b1, b2⟩ := box3 TE.out.b3
            have fa0 := TE.out.b2.frozen 0; have fa1 := TE.out.b2.frozen 1; have fa2 := TE.out.b2.frozen 2; have fb0 := TE.out.b3.frozen 0; have fb1 := TE.out.b3.frozen 1; have fb2 := TE.out.b3.frozen 2
            have zq := TE.out.bq.lt; have za := TE.out.b2.lt; have zb := TE.out.b3.lt; have zd := TE.out.dd.d.lt; have zr := TE.out.dr.d.lt
            have n23 := TE.out.ne
            go_wp2_with fail
            go_meet
            exact ⟨_, _, _, rs1, (0, 0, 0), _, _, rfl, rfl, rfl, rfl, rfl, TE.out, HOK1.out, HLN1.out⟩

        as_aux_lemma =>
          have f0 : (o7 == 0) = false := by simpa using hk0
          have f1 : (o7 == 1) = false := by simpa using hk1
          have f2 : (o7 == 2) = false := by simpa using hk2
          have f3 : (o7 == 3) = false := by simpa using hk3
          have f4 : (o7 == 4) = false := by simpa using hk4
          have hok1 := hid (fun r hr => (hearL_ok (by omega) HOK.out (pk, pi, pn) tk (by simp only; omega) r hr).mono (show (1099511627776 + (k : Int)) ≤ 1099511627776 + k + 1 by omega))
          have hln1 := hid (show (hearL rs (pk, pi, pn) tk).1.length ≤ 200 by rw [hearL_len]; exact HLN.out)
          have hc1 := hid (hear_any T3.out.dd pk pi pn tk)
          have hc2 := hid (fun (W : World) (vr_ : Value) (h : Dr W xr nr vr_ me rs) => rhear_eq h (show (0 : Int) ≤ 1099511627776 + (k : Int) by omega) HOK.out pk pi pn tk)
          generalize hrr : hearL rs (pk, pi, pn) tk = rr at hok1 hln1 hc1 hc2
          obtain ⟨rs1, ⟨pa, pb, pc⟩, is1, e1⟩ := rr
          clear hrr
          have HOK1 := hok1
          have HLN1 := hln1
          clear hok1 hln1
          have d0 := (T3.out.dd.d).cell 0; have d1 := (T3.out.dd.d).cell 1; have s0 := (T3.out.dr.d).cell 0; have s1 := (T3.out.dr.d).cell 1
          obtain ⟨q0, q1, q2, q3, q4⟩ := box5 T3.out.bq
          obtain ⟨a0, a1, a2⟩ := box3 T3.out.b2
          obtain ⟨b0, b1, b2⟩ := box3 T3.out.b3
          have fa0 := T3.out.b2.frozen 0; have fa1 := T3.out.b2.frozen 1; have fa2 := T3.out.b2.frozen 2; have fb0 := T3.out.b3.frozen 0; have fb1 := T3.out.b3.frozen 1; have fb2 := T3.out.b3.frozen 2
          have zq := T3.out.bq.lt; have za := T3.out.b2.lt; have zb := T3.out.b3.lt; have zd := T3.out.dd.d.lt; have zr := T3.out.dr.d.lt
          have n23 := T3.out.ne
          go_wp2_with fail
          refine hc1.out.mono ?_
          clear n23 d0 d1 s0 s1 q0 q1 q2 q3 q4 a0 a1 a2 b0 b1 b2 fa0 fa1 fa2 fb0 fb1 fb2 zq za zb zd zr
          clear hc1
          rintro e w8 ⟨rfl, hD8, hg8⟩
          have T4 := hid (T3.out.d hD8 hg8)
          have T5_ := hid (T4.out.s2 (pa, pb, pc))
          clear hD8 hg8 T3
          have d0 := (T4.out.dd.d).cell 0; have d1 := (T4.out.dd.d).cell 1; have s0 := (T4.out.dr.d).cell 0; have s1 := (T4.out.dr.d).cell 1
          obtain ⟨q0, q1, q2, q3, q4⟩ := box5 T4.out.bq
          obtain ⟨a0, a1, a2⟩ := box3 T4.out.b2
          obtain ⟨b0, b1, b2⟩ := box3 T4.out.b3
          have fa0 := T4.out.b2.frozen 0; have fa1 := T4.out.b2.frozen 1; have fa2 := T4.out.b2.frozen 2; have fb0 := T4.out.b3.frozen 0; have fb1 := T4.out.b3.frozen 1; have fb2 := T4.out.b3.frozen 2
          have zq := T4.out.bq.lt; have za := T4.out.b2.lt; have zb := T4.out.b3.lt; have zd := T4.out.dd.d.lt; have zr := T4.out.dr.d.lt
          have n23 := T4.out.ne
          go_wp2_with fail
          refine (hc2.out _ _ T5_.out.dr).mono ?_
          clear n23 d0 d1 s0 s1 q0 q1 q2 q3 q4 a0 a1 a2 b0 b1 b2 fa0 fa1 fa2 fb0 fb1 fb2 zq za zb zd zr
          clear hc2 T4
          rintro e w9 ⟨rfl, hD9, hg9⟩
          have T6 := hid (T5_.out.r hD9 hg9)
          have TE := hid (T6.out.s3 (pa, pb, pc))
          clear hD9 hg9 T5_
          have d0 := (T6.out.dd.d).cell 0; have d1 := (T6.out.dd.d).cell 1; have s0 := (T6.out.dr.d).cell 0; have s1 := (T6.out.dr.d).cell 1
          obtain ⟨q0, q1, q2, q3, q4⟩ := box5 T6.out.bq
          obtain ⟨a0, a1, a2⟩ := box3 T6.out.b2
          obtain ⟨b0, b1, b2⟩ := box3 T6.out.b3
          have fa0 := T6.out.b2.frozen 0; have fa1 := T6.out.b2.frozen 1; have fa2 := T6.out.b2.frozen 2; have fb0 := T6.out.b3.frozen 0; have fb1 := T6.out.b3.frozen 1; have fb2 := T6.out.b3.frozen 2
          have zq := T6.out.bq.lt; have za := T6.out.b2.lt; have zb := T6.out.b3.lt; have zd := T6.out.dd.d.lt; have zr := T6.out.dr.d.lt
          have n23 := T6.out.ne
          go_wp2_with fail
          go_meet
          exact ⟨_, _, _, rs1, (pa, pb, pc), _, _, rfl, rfl, rfl, rfl, rfl, TE.out, HOK1.out, HLN1.out⟩

      case rest =>
        obtain ⟨xd, nd, vd, rs1, ⟨pa, pb, pc⟩, is1, e1, rfl, rfl, rfl, rfl, rfl, te, hok1, hln1⟩ := hcut
        have TE := hid te
        have HOK1 := hid hok1
        have HLN1 := hid hln1
        clear te hok1 hln1
        as_aux_lemma =>
          have d0 := (TE.out.dd.d).cell 0; have d1 := (TE.out.dd.d).cell 1; have s0 := (TE.out.dr.d).cell 0; have s1 := (TE.out.dr.d).cell 1
          obtain ⟨q0, q1, q2, q3, q4⟩ := box5 TE.out.bq
          obtain ⟨a0, a1, a2⟩ := box3 TE.out.b2
          obtain ⟨b0, b1, b2⟩ := box3 TE.out.b3
          have fa0 := TE.out.b2.frozen 0; have fa1 := TE.out.b2.frozen 1; have fa2 := TE.out.b2.frozen 2; have fb0 := TE.out.b3.frozen 0; have fb1 := TE.out.b3.frozen 1; have fb2 := TE.out.b3.frozen 2
          have zq := TE.out.bq.lt; have za := TE.out.b2.lt; have zb := TE.out.b3.lt; have zd := TE.out.dd.d.lt; have zr := TE.out.dr.d.lt
          have n23 := TE.out.ne
          go_upto_region 46 with fail
          clear n23 d0 d1 s0 s1 q0 q1 q2 q3 q4 a0 a1 a2 b0 b1 b2 fa0 fa1 fa2 fb0 fb1 fb2 zq za zb zd zr
          have d0 := (TE.out.dd.d).cell 0; have d1 := (TE.out.dd.d).cell 1; have s0 := (TE.out.dr.d).cell 0; have s1 := (TE.out.dr.d).cell 1
          obtain ⟨q0, q1, q2, q3, q4⟩ := box5 TE.out.bq
          obtain ⟨a0, a1, a2⟩ := box3 TE.out.b2
          obtain ⟨b0, b1, b2⟩ := box3 TE.out.b3
          have fa0 := TE.out.b2.frozen 0; have fa1 := TE.out.b2.frozen 1; have fa2 := TE.out.b2.frozen 2; have fb0 := TE.out.b3.frozen 0; have fb1 := TE.out.b3.frozen 1; have fb2 := TE.out.b3.frozen 2
          have zq := TE.out.bq.lt; have za := TE.out.b2.lt; have zb := TE.out.b3.lt; have zd := TE.out.dd.d.lt; have zr := TE.out.dr.d.lt
          have n23 := TE.out.ne
          go_wp2_with fail
          refine (rget_any TE.out.dr pi).mono ?_
          clear n23 d0 d1 s0 s1 q0 q1 q2 q3 q4 a0 a1 a2 b0 b1 b2 fa0 fa1 fa2 fb0 fb1 fb2 zq za zb zd zr
          rintro e w20 ⟨rfl, hB20⟩
          obtain ⟨gp, gn, gf, hgr⟩ : ∃ gp gn gf, getR rs1 pi = (gp, gn, gf) := ⟨_, _, _, rfl⟩
          rw [hgr]
          have HG := hid hgr
          clear hgr
          have T20 := hid (TE.out.step hB20)
          have T21 := hid (T20.out.alloc (Obj.cells #[.int .i64 gp, .int .i64 gn, .bool gf] 48))
          have X21 := hid (Blk.new w20 48 #[.int .i64 gp, .int .i64 gn, .bool gf])
          clear hB20 TE
          go_upto_region 47 with fail
          generalize w20.alloc (Obj.cells #[.int .i64 gp, .int .i64 gn, .bool gf] 48) = w21 at *
          generalize w20.heap.size = gx at *
          have d0 := (T21.out.dd.d).cell 0; have d1 := (T21.out.dd.d).cell 1; have s0 := (T21.out.dr.d).cell 0; have s1 := (T21.out.dr.d).cell 1
          obtain ⟨q0, q1, q2, q3, q4⟩ := box5 T21.out.bq
          obtain ⟨a0, a1, a2⟩ := box3 T21.out.b2
          obtain ⟨b0, b1, b2⟩ := box3 T21.out.b3
          have fa0 := T21.out.b2.frozen 0; have fa1 := T21.out.b2.frozen 1; have fa2 := T21.out.b2.frozen 2; have fb0 := T21.out.b3.frozen 0; have fb1 := T21.out.b3.frozen 1; have fb2 := T21.out.b3.frozen 2
          have zq := T21.out.bq.lt; have za := T21.out.b2.lt; have zb := T21.out.b3.lt; have zd := T21.out.dd.d.lt; have zr := T21.out.dr.d.lt
          have n23 := T21.out.ne
          obtain ⟨x0, x1, x2⟩ := box3 X21.out
          have zx := X21.out.lt
          obtain ⟨Ar, cr, hvr, _, _, _⟩ := T21.out.dr.row
          rw [hvr] at s1
          have hx := fun x : Ext (GB w21) => GB.cell x
          have bt := hid (fun x : Ext (GB w21) => T21.out.step x.h.out)
          have ca := hid fun x : Ext (GB w21) => GB.call (x := x) ((me_any (bt.out x).dd).mono fun _ _ h => ⟨h.1, h.2 ▸ Below.refl _ _⟩)
          have cb := hid fun x : Ext (GB w21) => GB.call (x := x) ((robots_any (bt.out x).dd).mono fun _ _ h => ⟨h.1, h.2 ▸ Below.refl _ _⟩)
          have cc := hid fun x : Ext (GB w21) => GB.call (x := x) (v := .int .i64 gp) ((phase_any (bt.out x).dd pi).mono fun _ _ h => ⟨by rw [h.1, HG.out], h.2 ▸ Below.refl _ _⟩)
          have cd := hid fun x : Ext (GB w21) => GB.call (x := x) (v := .int .i64 gn) ((no_any (bt.out x).dd pi).mono fun _ _ h => ⟨by rw [h.1, HG.out], h.2 ▸ Below.refl _ _⟩)
          have ce := hid fun x : Ext (GB w21) => GB.call (x := x) (dbytes_any (bt.out x).dd hmI (robs_i (by omega) HOK1.out).2 (by have := HLN1.out; omega) (he.below (bt.out x).below))
          have cf := hid fun x : Ext (GB w21) => GB.call (x := x) (rdbytes_any (bt.out x).dr hmI (robs_i (by omega) HOK1.out).2 (by have := HLN1.out; omega))
          have cg := hid fun x : Ext (GB w21) => GB.call (x := x) (pbytes_any pk pi pn x.w i1 i2 i3 (he.below (bt.out x).below))
          have ch := hid fun x : Ext (GB w21) => GB.call (x := x) (rpbytes_any pk pi pn x.w i1 i2 i3)
          refine wp_region_ext (GB w21) (by kernel_rfl) (by kernel_rfl) (GB.refl _) ?_
          repeat (go_big_quiet_step (first | with_reducible exact ca.out _ | with_reducible exact cb.out _ | with_reducible exact cc.out _ | with_reducible exact cd.out _ | with_reducible exact ce.out _ | with_reducible exact cf.out _ | with_reducible exact cg.out _ | with_reducible exact ch.out _))
          refine wpQuiet_nil ?_
          intro w22 hG
          have T22 := hid (T21.out.step hG.out)
          clear hx ca cb cc cd ce cf cg ch hG x0 x1 x2 zx bt T21 X21 hvr
          clear n23 d0 d1 s0 s1 q0 q1 q2 q3 q4 a0 a1 a2 b0 b1 b2 fa0 fa1 fa2 fb0 fb1 fb2 zq za zb zd zr
          go_wp2_with fail
          go_roundw
          case rel => exact ⟨k + 1, xd, nd, vd, rs1, by omega, by go_num, rfl, T22.out.ld, T22.out.dd, T22.out.dr, fun r hr => (HOK1.out r hr).mono (by omega), HLN1.out, T22.out.below⟩
          case measure => simp [intOf]; omega

    · obtain rfl : k = l.length := by omega
      go_wp2_with fail
      go_ret
      exact ⟨rfl, hB⟩
end Go.Proofs.YtfofmbmmighdiaaDoor
namespace Go.Proofs.YtfofmbmmighdiaaDoor
open Go.RowKit Go.IntWalk

/-- ReadPass's answer in one form. -/
def PsU (w : World) (p : Pas) (ok : Bool) (e : Ending) (w' : World) : Prop := e = .returned (.tuple #[.agg #[.int .i64 p.1, .int .i64 p.2.1, .int .i64 p.2.2], .bool ok]) ∧ Below w.heap.size w w'
theorem psRes_u {w w' : World} {r : Option Pas} {e : Ending} (h : PsRes w r e w') : PsU w (r.getD (0, 0, 0)) r.isSome e w' := by
  cases r with
  | none => exact h
  | some p => exact h
/-- What both Reads make of a string. -/
def RdR (w : World) (r : Option (Int × List Rob)) (e : Ending) (w' : World) : Prop :=
  match r with
  | some x => RdkRes w x.1 x.2 e w'
  | none => e = .returned (.tuple #[.pointer none, .bool false]) ∧ Below w.heap.size w w'
def RrR (w : World) (r : Option (Int × List Rob)) (e : Ending) (w' : World) : Prop :=
  match r with
  | some x => RRdk w x.1 x.2 e w'
  | none => e = .returned (.tuple #[.pointer none, .bool false]) ∧ Below w.heap.size w w'
theorem bs_toList (s : ByteArray) : bs s.data.toList = s := by
  simp [bs]
theorem reads_uni (s : ByteArray) (hs : s.size ≤ 20000) : ∃ r : Option (Int × List Rob), (∀ x, r = some x → (x.1 = 0 ∨ x.1 = 1) ∧ (∀ q ∈ x.2, RobOK 2199023255552 q) ∧ x.2.length ≤ 200) ∧
    (∀ w, Env w → Calls Tryd.prog 11 #[.string s] w (RdR w r)) ∧ (∀ w, Calls Tryd.prog 12 #[.string s] w (RrR w r)) := by
  by_cases h : NoDesk s
  · exact ⟨none, fun x hx => (by cases hx), fun w he => rdesk_no s w hs h he, fun w => rrdesk_no s w hs h⟩
  · have h' : ∃ (me : Int) (rs : List Rob), (me = 0 ∨ me = 1) ∧ (∀ r ∈ rs, RobOK 2199023255552 r) ∧ rs.length ≤ 200 ∧ s.data.toList = encD me rs := by
      refine Classical.byContradiction fun hn => h fun me rs h1 h2 h3 h4 => hn ⟨me, rs, h1, h2, h3, h4⟩
    obtain ⟨me, rs, h1, h2, h3, h4⟩ := h'
    have e : s = bs (encD me rs) := by rw [← h4, bs_toList]
    subst e
    refine ⟨some (me, rs), fun x hx => ?_, fun w he => rdesk_any me rs w h1 h2 h3 he, fun w => rrdesk_yes me rs w h1 h2 h3⟩
    injection hx with hx
    subst hx
    exact ⟨h1, h2, h3⟩
/-- What both Reads make of s. -/
def ReadsAre (s : ByteArray) (r : Option (Int × List Rob)) : Prop := (∀ x, r = some x → (x.1 = 0 ∨ x.1 = 1) ∧ (∀ q ∈ x.2, RobOK 2199023255552 q) ∧ x.2.length ≤ 200) ∧
    (∀ w, Env w → Calls Tryd.prog 11 #[.string s] w (RdR w r)) ∧ (∀ w, Calls Tryd.prog 12 #[.string s] w (RrR w r))
set_option maxRecDepth 100000 in
set_option maxHeartbeats 4000000 in
theorem stells_A (me : Int) (Am : Option Addr) (cm : Nat) (mine : List Bool) (Al : Option Addr) (cl : Nat) (l : List Opp) (s : ByteArray) (w : World) (hml : mine.length ≤ maxLen) (hll : l.length ≤ maxLen)
    (hm : SlR w w.heap.size Am mine) (hs : SlR w w.heap.size Al l) (he : Env w) (hrr : s.size ≤ 300 → ReadsAre s none) :
    Calls Tryd.prog 3 #[.int .i64 me, .slice Am mine.length cm, .slice Al l.length cl, .string s] w fun e w' => e = .returned (.bool true) ∧ Below w.heap.size w w' := by
  have hml' := hid hml
  have hll' := hid hll
  unfold maxLen at hml hll
  go_enter Tryd.func3, Tryd.ntmps3
  go_wp2_with fail
  refine (dsmall_any _).mono ?_
  rintro e w1 ⟨rfl, hB1⟩
  have B1 := hid hB1
  clear hB1
  by_cases h210 : (210 : Int) < mine.length
  · go_wp2_with fail
    go_ret
    exact ⟨rfl, B1.out⟩
  go_wp2_with fail
  refine (fine_any Al cl l 60 _ hll'.out ((hs.below B1.out).more B1.out.size)).mono ?_
  cases hf1 : fineL l 60 with
  | false =>
    clear hf1
    rintro e w2 ⟨rfl, rfl⟩
    go_wp2_with fail
    go_ret
    exact ⟨rfl, B1.out⟩
  | true =>
  obtain ⟨ha1, hb1⟩ := fineL_iff.1 hf1
  have HA1 := hid ha1
  clear hf1 ha1
  rintro e w2 ⟨rfl, rfl⟩
  by_cases h300 : (300 : Int) < s.size
  · go_wp2_with fail
    go_ret
    exact ⟨rfl, B1.out⟩
  go_wp2_with fail
  refine (rpass_any s _ (by omega) (he.below B1.out)).mono ?_
  intro e w2 h2
  have h2 := psRes_u h2
  generalize hp9 : (readPR s.data.toList).getD (0, 0, 0) = pp at h2
  generalize ho9 : (readPR s.data.toList).isSome = okp at h2
  have Hp := hid hp9
  have Ho := hid ho9
  clear hp9 ho9
  obtain ⟨pk, pi, pn⟩ := pp
  obtain ⟨rfl, hB⟩ := h2
  have B2 := hid ((B1.out.trans (hB.mono B1.out.size)).alloc (B1.out.trans (hB.mono B1.out.size)).size (Obj.cells #[.int .i64 pk, .int .i64 pi, .int .i64 pn] 27))
  have x2 := hid (Blk.new w2 27 #[.int .i64 pk, .int .i64 pi, .int .i64 pn])
  clear hB B1
  go_wp2_with fail
  refine (rrpass_any s _ (by omega)).mono ?_
  intro e w3 h3
  have h3 := psRes_u h3
  rw [Hp.out, Ho.out] at h3
  obtain ⟨rfl, hB⟩ := h3
  have B3 := hid (B2.out.trans (hB.mono B2.out.size))
  have x3 := hid (x2.out.below hB x2.out.lt)
  generalize w2.heap.size = gp at *
  clear hB B2 x2 Hp Ho
  have B4 := hid (B3.out.alloc B3.out.size (Obj.cells #[.int .i64 pk, .int .i64 pi, .int .i64 pn] 27))
  have x4 := hid (x3.out.alloc (Obj.cells #[.int .i64 pk, .int .i64 pi, .int .i64 pn] 27))
  have y4 := hid (Blk.new w3 27 #[.int .i64 pk, .int .i64 pi, .int .i64 pn])
  obtain ⟨hr1, hr2, hr3⟩ := hrr (by omega)
  have HR1 := hid hr1
  have HR2 := hid hr2
  have HR3 := hid hr3
  clear hr1 hr2 hr3 B3 x3
  go_wp2_with fail
  refine (HR2.out _ (he.below B4.out)).mono ?_
  rintro e w5 ⟨rfl, hB⟩
  have B5 := hid (B4.out.trans (hB.mono B4.out.size))
  have x5 := hid (x4.out.below hB x4.out.lt)
  have y5 := hid (y4.out.below hB y4.out.lt)
  generalize w3.heap.size = gq at *
  clear hB B4 x4 y4
  go_wp2_with fail
  refine (HR3.out _).mono ?_
  rintro e w6 ⟨rfl, hB⟩
  have B6 := hid (B5.out.trans (hB.mono B5.out.size))
  have x6 := hid (x5.out.below hB x5.out.lt)
  have y6 := hid (y5.out.below hB y5.out.lt)
  clear hB B5 x5 y5
  obtain ⟨a0, a1, a2⟩ := box3 x6.out
  obtain ⟨b0, b1, b2⟩ := box3 y6.out
  have za := x6.out.lt; have zb := y6.out.lt
  go_wp2_with fail
  clear a0 a1 a2 b0 b1 b2 za zb x6 y6
  refine (new_any me Am cm mine _ hml'.out ((hm.below B6.out).more B6.out.size)).mono ?_
  cases hn : newL me mine with
  | none =>
    rintro e w9 ⟨rfl, hB⟩
    have B9 := hid (B6.out.trans (hB.mono B6.out.size))
    clear hB B6
    go_wp2_with fail
    have hc := rnew_any me Am cm mine w9 hml'.out ((hm.below B9.out).more B9.out.size)
    rw [hn] at hc
    refine hc.mono ?_
    clear hc hn
    rintro e w10 ⟨rfl, hB⟩
    have B10 := hid (B9.out.trans (hB.mono B9.out.size))
    clear hB B9
    go_wp2_with fail
    go_loop [18, 20] (fun d i => d = .pointer none ∧ i = .int .i64 0) (fun _ _ => 0)
    case atStart => exact ⟨rfl, rfl⟩
    case round =>
      obtain ⟨rfl, rfl⟩ := hrel
      by_cases hl : (0 : Int) < l.length
      · go_wp2_with fail
        go_ret
        exact ⟨rfl, B10.out⟩
      · have hz : (l.length : Int) = 0 := by omega
        clear hl
        go_wp2_with fail
        go_ret
        exact ⟨rfl, B10.out⟩
  | some rs0 =>
    obtain ⟨hme, hlen0, hok0⟩ := newL_ok hn
    have HOK0 := hid hok0
    have HME := hid hme
    have HLN0 := hid (show rs0.length ≤ 200 by
      unfold newL at hn
      split at hn
      · rename_i hc
        rw [hlen0]; exact hc.2
      · cases hn)
    clear hok0 hme hlen0
    rintro e w9 ⟨nd, vd, rfl, hnd, DD, hB⟩
    have B9 := hid (B6.out.trans (hB.mono B6.out.size))
    have D9 := hid DD
    have hz1 := hid B6.out.size
    clear hB DD B6
    generalize w6.heap.size = xd0 at *
    go_wp2_with fail
    have hc := rnew_any me Am cm mine w9 hml'.out ((hm.below B9.out).more B9.out.size)
    rw [hn] at hc
    refine hc.mono ?_
    clear hc hn
    rintro e w10 ⟨nr, vr, rfl, hnr, DR, hB⟩
    have B10 := hid (B9.out.trans (hB.mono B9.out.size))
    have D10 := hid (D9.out.below hB)
    have R10 := hid DR
    have hz2 := hid B9.out.size
    clear hB B9 D9 DR
    generalize w9.heap.size = xr at *
    go_upto_block 0 with fail
    refine stells_loop me Am cm mine Al cl l s w w10 hll' (by omega) hs he HA1 rs0 nd nr xd0 xr vd vr HME HOK0 HLN0 hz1 hz2 D10 R10 B10 _ ?_
    assumption
end Go.Proofs.YtfofmbmmighdiaaDoor
namespace Go.Proofs.YtfofmbmmighdiaaDoor
open Go.RowKit Go.IntWalk

set_option maxRecDepth 100000 in
set_option maxHeartbeats 4000000 in
theorem stells_B (me : Int) (Am : Option Addr) (cm : Nat) (mine : List Bool) (Al : Option Addr) (cl : Nat) (l : List Opp) (s : ByteArray) (w : World) (hml : mine.length ≤ maxLen) (hll : l.length ≤ maxLen)
    (hm : SlR w w.heap.size Am mine) (hs : SlR w w.heap.size Al l) (he : Env w) (x : Int × List Rob) (hrr : ReadsAre s (some x)) :
    Calls Tryd.prog 3 #[.int .i64 me, .slice Am mine.length cm, .slice Al l.length cl, .string s] w fun e w' => e = .returned (.bool true) ∧ Below w.heap.size w w' := by
  have hml' := hid hml
  have hll' := hid hll
  unfold maxLen at hml hll
  go_enter Tryd.func3, Tryd.ntmps3
  go_wp2_with fail
  refine (dsmall_any _).mono ?_
  rintro e w1 ⟨rfl, hB1⟩
  have B1 := hid hB1
  clear hB1
  by_cases h210 : (210 : Int) < mine.length
  · go_wp2_with fail
    go_ret
    exact ⟨rfl, B1.out⟩
  go_wp2_with fail
  refine (fine_any Al cl l 60 _ hll'.out ((hs.below B1.out).more B1.out.size)).mono ?_
  cases hf1 : fineL l 60 with
  | false =>
    clear hf1
    rintro e w2 ⟨rfl, rfl⟩
    go_wp2_with fail
    go_ret
    exact ⟨rfl, B1.out⟩
  | true =>
  obtain ⟨ha1, hb1⟩ := fineL_iff.1 hf1
  have HA1 := hid ha1
  clear hf1 ha1
  rintro e w2 ⟨rfl, rfl⟩
  by_cases h300 : (300 : Int) < s.size
  · go_wp2_with fail
    go_ret
    exact ⟨rfl, B1.out⟩
  go_wp2_with fail
  refine (rpass_any s _ (by omega) (he.below B1.out)).mono ?_
  intro e w2 h2
  have h2 := psRes_u h2
  generalize hp9 : (readPR s.data.toList).getD (0, 0, 0) = pp at h2
  generalize ho9 : (readPR s.data.toList).isSome = okp at h2
  have Hp := hid hp9
  have Ho := hid ho9
  clear hp9 ho9
  obtain ⟨pk, pi, pn⟩ := pp
  obtain ⟨rfl, hB⟩ := h2
  have B2 := hid ((B1.out.trans (hB.mono B1.out.size)).alloc (B1.out.trans (hB.mono B1.out.size)).size (Obj.cells #[.int .i64 pk, .int .i64 pi, .int .i64 pn] 27))
  have x2 := hid (Blk.new w2 27 #[.int .i64 pk, .int .i64 pi, .int .i64 pn])
  clear hB B1
  go_wp2_with fail
  refine (rrpass_any s _ (by omega)).mono ?_
  intro e w3 h3
  have h3 := psRes_u h3
  rw [Hp.out, Ho.out] at h3
  obtain ⟨rfl, hB⟩ := h3
  have B3 := hid (B2.out.trans (hB.mono B2.out.size))
  have x3 := hid (x2.out.below hB x2.out.lt)
  generalize w2.heap.size = gp at *
  clear hB B2 x2 Hp Ho
  have B4 := hid (B3.out.alloc B3.out.size (Obj.cells #[.int .i64 pk, .int .i64 pi, .int .i64 pn] 27))
  have x4 := hid (x3.out.alloc (Obj.cells #[.int .i64 pk, .int .i64 pi, .int .i64 pn] 27))
  have y4 := hid (Blk.new w3 27 #[.int .i64 pk, .int .i64 pi, .int .i64 pn])
  obtain ⟨hr1, hr2, hr3⟩ := hrr
  have HR1 := hid hr1
  have HR2 := hid hr2
  have HR3 := hid hr3
  clear hr1 hr2 hr3 B3 x3
  go_wp2_with fail
  refine (HR2.out _ (he.below B4.out)).mono ?_
  obtain ⟨mx, rx⟩ := x
  obtain ⟨hx1, hx2, hx3⟩ := HR1.out (mx, rx) rfl
  simp only at hx1 hx2 hx3
  have hmX : I64 mx := by rcases hx1 with rfl | rfl <;> simp [I64]
  have HX := hid (robs_i (by omega) hx2).2
  rintro e w5 ⟨nx, vx, rfl, hnx, DX, hB⟩
  have B5 := hid (B4.out.trans (hB.mono B4.out.size))
  have x5 := hid (x4.out.below hB x4.out.lt)
  have y5 := hid (y4.out.below hB y4.out.lt)
  generalize w3.heap.size = gq at *
  clear hB B4 x4 y4
  go_wp2_with fail
  refine (HR3.out _).mono ?_
  rintro e w6 ⟨ny, vy, rfl, hny, DY, hB⟩
  have B6 := hid (B5.out.trans (hB.mono B5.out.size))
  have x6 := hid (x5.out.below hB x5.out.lt)
  have y6 := hid (y5.out.below hB y5.out.lt)
  have DX6 := hid (DX.below hB)
  have DY6 := hid DY
  clear hB B5 x5 y5 DX DY
  obtain ⟨a0, a1, a2⟩ := box3 x6.out
  obtain ⟨b0, b1, b2⟩ := box3 y6.out
  have za := x6.out.lt; have zb := y6.out.lt
  go_wp2_with fail
  refine (dbytes_any DX6.out hmX HX.out (by omega) (he.below B6.out)).mono ?_
  rintro e w7 ⟨rfl, hB⟩
  have B7 := hid (B6.out.trans (hB.mono B6.out.size))
  have DY7 := hid (DY6.out.below hB)
  clear hB B6 DX6 DY6 a0 a1 a2 b0 b1 b2 za zb x6 y6
  go_wp2_with fail
  refine (rdbytes_any DY7.out hmX HX.out (by omega)).mono ?_
  rintro e w8 ⟨rfl, hB⟩
  have B8 := hid (B7.out.trans (hB.mono B7.out.size))
  clear hB B7 DY7
  go_wp2_with fail
  refine (new_any me Am cm mine _ hml'.out ((hm.below B8.out).more B8.out.size)).mono ?_
  cases hn : newL me mine with
  | none =>
    rintro e w9 ⟨rfl, hB⟩
    have B9 := hid (B8.out.trans (hB.mono B8.out.size))
    clear hB B8
    go_wp2_with fail
    have hc := rnew_any me Am cm mine w9 hml'.out ((hm.below B9.out).more B9.out.size)
    rw [hn] at hc
    refine hc.mono ?_
    clear hc hn
    rintro e w10 ⟨rfl, hB⟩
    have B10 := hid (B9.out.trans (hB.mono B9.out.size))
    clear hB B9
    go_wp2_with fail
    go_loop [18, 20] (fun d i => d = .pointer none ∧ i = .int .i64 0) (fun _ _ => 0)
    case atStart => exact ⟨rfl, rfl⟩
    case round =>
      obtain ⟨rfl, rfl⟩ := hrel
      by_cases hl : (0 : Int) < l.length
      · go_wp2_with fail
        go_ret
        exact ⟨rfl, B10.out⟩
      · have hz : (l.length : Int) = 0 := by omega
        clear hl
        go_wp2_with fail
        go_ret
        exact ⟨rfl, B10.out⟩
  | some rs0 =>
    obtain ⟨hme, hlen0, hok0⟩ := newL_ok hn
    have HOK0 := hid hok0
    have HME := hid hme
    have HLN0 := hid (show rs0.length ≤ 200 by
      unfold newL at hn
      split at hn
      · rename_i hc
        rw [hlen0]; exact hc.2
      · cases hn)
    clear hok0 hme hlen0
    rintro e w9 ⟨nd, vd, rfl, hnd, DD, hB⟩
    have B9 := hid (B8.out.trans (hB.mono B8.out.size))
    have D9 := hid DD
    have hz1 := hid B8.out.size
    clear hB DD B8
    generalize w8.heap.size = xd0 at *
    go_wp2_with fail
    have hc := rnew_any me Am cm mine w9 hml'.out ((hm.below B9.out).more B9.out.size)
    rw [hn] at hc
    refine hc.mono ?_
    clear hc hn
    rintro e w10 ⟨nr, vr, rfl, hnr, DR, hB⟩
    have B10 := hid (B9.out.trans (hB.mono B9.out.size))
    have D10 := hid (D9.out.below hB)
    have R10 := hid DR
    have hz2 := hid B9.out.size
    clear hB B9 D9 DR
    generalize w9.heap.size = xr at *
    go_upto_block 0 with fail
    refine stells_loop me Am cm mine Al cl l s w w10 hll' (by omega) hs he HA1 rs0 nd nr xd0 xr vd vr HME HOK0 HLN0 hz1 hz2 D10 R10 B10 _ ?_
    assumption
end Go.Proofs.YtfofmbmmighdiaaDoor
namespace Go.Proofs.YtfofmbmmighdiaaDoor
open Go.RowKit Go.IntWalk

theorem stells_any (me : Int) (Am : Option Addr) (cm : Nat) (mine : List Bool) (Al : Option Addr) (cl : Nat) (l : List Opp) (s : ByteArray) (w : World) (hml : mine.length ≤ maxLen) (hll : l.length ≤ maxLen)
    (hm : SlR w w.heap.size Am mine) (hs : SlR w w.heap.size Al l) (he : Env w) :
    Calls Tryd.prog 3 #[.int .i64 me, .slice Am mine.length cm, .slice Al l.length cl, .string s] w fun e w' => e = .returned (.bool true) ∧ Below w.heap.size w w' := by
  by_cases h : s.size ≤ 300
  · obtain ⟨r, hr⟩ := reads_uni s (by omega)
    cases r with
    | none => exact stells_A me Am cm mine Al cl l s w hml hll hm hs he (fun _ => hr)
    | some x => exact stells_B me Am cm mine Al cl l s w hml hll hm hs he x hr
  · exact stells_A me Am cm mine Al cl l s w hml hll hm hs he (fun h' => absurd h' h)
end Go.Proofs.YtfofmbmmighdiaaDoor
namespace Go.Proofs.YtfofmbmmighdiaaDoor
open Go.RowKit Go.IntWalk Go.ChangeShapes Go.WideShapes Go.ChangeAt Go.WideElems

theorem seamTells_read : ∀ t ∈ Tryd.f3.params.toList, Tryd.prog.readableRec t = true ∧ t < Tryd.prog.types.size := by
  intro t ht
  have : t = 3 ∨ t = 22 ∨ t = 23 ∨ t = 9 := by
    rw [Tryd.params3] at ht; simpa using ht
  rcases this with rfl | rfl | rfl | rfl
  · exact ⟨by kernel_rfl, of_decide_eq_true (by kernel_rfl)⟩
  · exact ⟨by kernel_rfl, of_decide_eq_true (by kernel_rfl)⟩
  · exact ⟨by kernel_rfl, of_decide_eq_true (by kernel_rfl)⟩
  · exact ⟨by kernel_rfl, of_decide_eq_true (by kernel_rfl)⟩

set_option maxRecDepth 100000 in
theorem seamTells_lifted (os : Os) (started : os.Started) (H : Type) (enc : TypeId × Value → H) :
    ReturnsInHanded {} Tryd.checked os 3 .any (fun w args => (Rows.seamTellsSpec.pre enc Tryd.prog Tryd.f3 [] false w args ∧ laidMetH Tryd.prog laid5 w) ∧ sizedMet enc Tryd.prog Tryd.f3 (OpenSpec.ofChange Rows.seamTellsSpec) false w args)
      (Rows.seamTellsSpec.post enc Tryd.prog Tryd.f3 false true false false) := by
  refine returnsInHanded_of_change_and (C := Tryd.checked) (X := fun w _ => laidMetH Tryd.prog laid5 w) (fun w w' args hh h => met_heap (w := w) (w' := w') hh h) own started (by kernel_rfl) Tryd.func3
    (ChangeSpec.witness_shaped (enc := enc) (C := Tryd.checked) (os := os) (X := fun w _ => laidMetH Tryd.prog laid5 w) false (World.doorLaid Tryd.prog 62 os) #[.int .i64 0, .slice none 0 0, .slice none 0 0, .string ⟨#[]⟩] 8 rfl (World.shaped_of_RefB (by kernel_rfl) (by kernel_rfl)) (by kernel_rfl) (by kernel_rfl) (by kernel_rfl) (door_met os _)) ?_
  intro W base args ds gs before hval0 hW _ _ hL _
  refine post_law (C := Tryd.checked) (f := 3) (fn := Tryd.f3) (s := Rows.seamTellsSpec) (tb := 4) H enc laidOut rfl Tryd.underlying4 rfl seamTells_read (by
      intro ds hd
      match ds, hd with
      | [d0, d1, d2, d3], _ => rfl) hW ?_
  intro p hA
  have hval : ∀ (j : Nat) t v, Tryd.f3.params[j]? = some t → args[j]? = some v → Value.okWide Tryd.prog W .any base t v := hval0
  have hA : DataW.TrodAll enc Tryd.prog W 0 (fun _ => true) true Tryd.f3.params.toList args.toList ds p := hA
  rw [Tryd.params3] at hA hval
  obtain ⟨v0, v1, v2, v3, d0, d1, d2, d3, p0_, p1_, p2_, p3_, rfl, rfl, rfl, h0, h1, h2, h3⟩ := trodAll_four hA
  obtain ⟨n0, rfl, p0⟩ := arg_int Tryd.underlying3 (hval 0 _ _ rfl rfl) h0
  obtain ⟨A1, c1, l1, rfl, p11, p12, p13⟩ := arg_slice Tryd.underlying22 opBools (hval 1 _ _ rfl rfl) h1
  obtain ⟨A2, c2, l2, rfl, p21, p22, p23⟩ := arg_slice Tryd.underlying23 opOps (hval 2 _ _ rfl rfl) h2
  obtain ⟨s3, rfl, p3⟩ := arg_str Tryd.underlying9 (hval 3 _ _ rfl rfl) h3
  exact stells_any n0 A1 c1 l1 A2 c2 l2 s3 W (Nat.le_trans p11 p12) (Nat.le_trans p21 p22) p13 p23 (env_of hL)

theorem seamTells_said : Rows.SeamTellsSaid :=
  OpenClaim.holds_of_wide 3 Tryd.f3 rfl rfl rfl rfl rfl rfl rfl ⟨rfl, rfl, rfl, rfl, rfl⟩ rfl rfl rfl rfl rfl (by kernel_rfl) Tryd.func3 (by kernel_rfl)
    (of_decide_eq_true (by kernel_rfl)) (by unfold Func.isWrapper; first | (rw [if_pos (by decide +kernel)]; kernel_rfl) | (rw [if_neg (by decide +kernel)]; exact ⟨rfl, rfl⟩))
    (fun os started H enc _ => seamTells_lifted os started H enc)
theorem seamTells_plain (f : FuncId) (fn : Func) (hf : Tryd.pinned.checked.prog.funcNamed "taquin/taquinlaw45.SeamTells" = some f) (hfn : Tryd.pinned.checked.prog.funcs[f]? = some fn) :
    true = Tryd.pinned.checked.prog.looks [] ∧ ∀ (j : Nat) t, fn.params[j]? = some t → Tryd.pinned.checked.prog.wantsStandIn t = false := by
  obtain rfl : f = 3 := Option.some.inj ((show Tryd.prog.funcNamed "taquin/taquinlaw45.SeamTells" = some 3 by kernel_rfl).symm.trans hf) |>.symm
  obtain rfl : fn = Tryd.f3 := (Option.some.inj (Tryd.func3.symm.trans hfn)).symm
  refine ⟨by kernel_rfl, fun j t ht => ?_⟩
  rw [Tryd.params3] at ht
  have this : t = 3 ∨ t = 22 ∨ t = 23 ∨ t = 9 := by simpa using Array.mem_of_getElem? ht
  rcases this with rfl | rfl | rfl | rfl
  · exact (show Tryd.prog.wantsStandIn 3 = false by kernel_rfl)
  · exact (show Tryd.prog.wantsStandIn 22 = false by kernel_rfl)
  · exact (show Tryd.prog.wantsStandIn 23 = false by kernel_rfl)
  · exact (show Tryd.prog.wantsStandIn 9 = false by kernel_rfl)
theorem seamTells_holds : Rows.SeamTellsCardSaid :=
  Claim7.holds_tied_plain_at .later [] _ _ _ _ seamTells_said (fun _ h => by cases h) (by kernel_rfl) (fun _ h => by cases h) seamTells_row_tie rfl ⟨rfl, rfl⟩ (by kernel_rfl) rfl seamTells_plain (by kernel_rfl)
#print axioms seamTells_holds
end Go.Proofs.YtfofmbmmighdiaaDoor
