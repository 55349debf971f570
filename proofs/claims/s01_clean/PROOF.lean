import PyProof.Rows.All
import Wide.All
import OpenK.AllK
import Wide.FinOn
import PyProof.EqAt
import PyProof.EqKinds
import PyProof.TupleCall
import Open.SpecLaws
import KE.OsGo
import PySem.Challenge.RW_growerspaid_s01_clean
import HandS.ForSpec
import HandS.ExcInit
import HandS.ExcField
set_option Elab.async false
set_option linter.all false
set_option maxRecDepth 100000
set_option maxHeartbeats 4000000
namespace Gp
def okL (x : Int × Int × Int) : Bool := decide (x.1 ≤ 50000) && (decide (x.2.1 ≤ 1000) && decide (x.2.2 ≤ 2500))
def cleanI (g e : Int) : Int := g - g * e / 1000
def sugarI (c h : Int) : Int := c * h / 10000
def priceI (b s h : Int) : Int := if b + s * (h - 1600) > 0 then b + s * (h - 1600) else 0
def nat3 (x : Int × Int × Int) : Kzb6.Load := ⟨x.1.toNat, x.2.1.toNat, x.2.2.toNat⟩
def pos3 (x : Int × Int × Int) : Prop := 0 ≤ x.1 ∧ 0 ≤ x.2.1 ∧ 0 ≤ x.2.2
theorem okL_iff {x : Int × Int × Int} : okL x = true ↔ x.1 ≤ 50000 ∧ x.2.1 ≤ 1000 ∧ x.2.2 ≤ 2500 := by
  unfold okL
  simp only [Bool.and_eq_true, decide_eq_true_eq]
theorem okLoad_is {x : Int × Int × Int} : Kzb6.okLoad (nat3 x) = okL x := by
  apply Bool.eq_iff_iff.mpr
  rw [okL_iff]
  unfold Kzb6.okLoad nat3
  simp only [Bool.and_eq_true, decide_eq_true_eq]
  omega
theorem mulc (a b : Nat) : ((a : Int) * (b : Int)) = ((a * b : Nat) : Int) := by rw [Int.natCast_mul]
theorem clean_le (g e : Nat) (h : e ≤ 1000) : g * e / 1000 ≤ g := by
  have h1 : g * e ≤ g * 1000 := Nat.mul_le_mul_left g h
  omega
theorem clean_is {x : Int × Int × Int} (p : pos3 x) (o : okL x = true) : ((Kzb6.clean (nat3 x) : Nat) : Int) = cleanI x.1 x.2.1 := by
  obtain ⟨g, e, h⟩ := x
  obtain ⟨p1, p2, p3⟩ := p
  obtain ⟨_, o2, _⟩ := okL_iff.mp o
  obtain ⟨g, rfl⟩ := Int.eq_ofNat_of_zero_le p1
  obtain ⟨e, rfl⟩ := Int.eq_ofNat_of_zero_le p2
  have o2 : e ≤ 1000 := by simp only at o2; omega
  have q := clean_le g e o2
  show ((g - g * e / 1000 : Nat) : Int) = (g : Int) - (g : Int) * (e : Int) / 1000
  rw [mulc]
  omega
theorem sugar_is {x : Int × Int × Int} (p : pos3 x) (o : okL x = true) : ((Kzb6.sugar (nat3 x) : Nat) : Int) = sugarI (cleanI x.1 x.2.1) x.2.2 := by
  have c := clean_is p o
  unfold Kzb6.sugar sugarI
  rw [← c]
  obtain ⟨g, e, h⟩ := x
  obtain ⟨_, _, p3⟩ := p
  obtain ⟨h, rfl⟩ := Int.eq_ofNat_of_zero_le p3
  show ((Kzb6.clean _ * h / 10000 : Nat) : Int) = (Kzb6.clean _ : Int) * (h : Int) / 10000
  rw [mulc]
  omega
theorem cleanI_bd {x : Int × Int × Int} (p : pos3 x) (o : okL x = true) : 0 ≤ cleanI x.1 x.2.1 ∧ cleanI x.1 x.2.1 ≤ 50000 := by
  have c := clean_is p o
  have k : Kzb6.clean (nat3 x) ≤ x.1.toNat := Nat.sub_le _ _
  obtain ⟨o1, _, _⟩ := okL_iff.mp o
  have p1 := p.1
  omega
/-- s01 -/
def cleanAns (g e h : Int) : List Int := if okL (g, e, h) = true then [cleanI g e, sugarI (cleanI g e) h] else [-22]
theorem s01_is {g e h : Int} (p : pos3 (g, e, h)) : PyKzb6.clean g e h = cleanAns g e h := by
  unfold cleanAns PyKzb6.clean Kzb6Neutral.f
  show (Kzb6.answer (.clean g.toNat e.toNat h.toNat)).value :: Kzb6Neutral.ints (Kzb6.answer (.clean g.toNat e.toNat h.toNat)).nums = _
  have k : Kzb6.okLoad ⟨g.toNat, e.toNat, h.toNat⟩ = okL (g, e, h) := okLoad_is (x := (g, e, h))
  unfold Kzb6.answer
  simp only [k]
  by_cases o : okL (g, e, h) = true
  · rw [if_pos o, if_neg (by rw [o]; decide)]
    show ((Kzb6.clean (nat3 (g, e, h)) : Nat) : Int) :: [((Kzb6.sugar (nat3 (g, e, h)) : Nat) : Int)] = _
    rw [clean_is p o, sugar_is p o]
  · rw [if_neg o, if_pos (by simpa using o)]
    rfl
/-- s02 -/
def okT (b s : Int) : Bool := decide (b ≤ 10000) && decide (s ≤ 10)
theorem okT_iff {b s : Int} : okT b s = true ↔ b ≤ 10000 ∧ s ≤ 10 := by
  unfold okT
  simp only [Bool.and_eq_true, decide_eq_true_eq]
theorem okTerms_is {b s : Int} : Kzb6.okTerms ⟨b.toNat, s.toNat⟩ = okT b s := by
  apply Bool.eq_iff_iff.mpr
  rw [okT_iff]
  unfold Kzb6.okTerms
  simp only [Bool.and_eq_true, decide_eq_true_eq]
  omega
theorem price_is {b s h : Int} (hb : 0 ≤ b) (hs : 0 ≤ s) (hh : 0 ≤ h) : ((Kzb6.price ⟨b.toNat, s.toNat⟩ h.toNat : Nat) : Int) = priceI b s h := by
  obtain ⟨b, rfl⟩ := Int.eq_ofNat_of_zero_le hb
  obtain ⟨s, rfl⟩ := Int.eq_ofNat_of_zero_le hs
  obtain ⟨h, rfl⟩ := Int.eq_ofNat_of_zero_le hh
  show (((if 1600 ≤ h then b + s * (h - 1600) else b - s * (1600 - h)) : Nat) : Int) = (if (b : Int) + s * ((h : Int) - 1600) > 0 then (b : Int) + s * ((h : Int) - 1600) else 0)
  by_cases c : 1600 ≤ h
  · rw [if_pos c]
    obtain ⟨d, rfl⟩ := Nat.exists_eq_add_of_le c
    have e1 : ((1600 + d : Nat) : Int) - 1600 = (d : Int) := by omega
    have e2 : 1600 + d - 1600 = d := by omega
    rw [e1, e2, mulc]
    split <;> omega
  · rw [if_neg c]
    obtain ⟨d, e⟩ := Nat.exists_eq_add_of_le (Nat.le_of_not_le c)
    have e1 : (h : Int) - 1600 = -(d : Int) := by omega
    have e2 : 1600 - h = d := by omega
    rw [e1, e2, Int.mul_neg, mulc]
    split <;> omega
def priceAns (b s h : Int) : List Int := if okT b s = true ∧ h ≤ 2500 then [priceI b s h] else [-22]
theorem s02_is {b s h : Int} (hb : 0 ≤ b) (hs : 0 ≤ s) (hh : 0 ≤ h) : PyKzb6.price b s h = priceAns b s h := by
  unfold priceAns PyKzb6.price Kzb6Neutral.f
  show (Kzb6.answer (.price b.toNat s.toNat h.toNat)).value :: Kzb6Neutral.ints (Kzb6.answer (.price b.toNat s.toNat h.toNat)).nums = _
  unfold Kzb6.answer
  simp only [okTerms_is]
  by_cases o : okT b s = true ∧ h ≤ 2500
  · rw [if_pos o, if_neg (by rw [o.1]; intro z; rcases z with z | z; exact absurd z (by decide); omega)]
    show ((Kzb6.price ⟨b.toNat, s.toNat⟩ h.toNat : Nat) : Int) :: [] = _
    rw [price_is hb hs hh]
  · rw [if_neg o, if_pos]
    · rfl
    · by_cases o1 : okT b s = true
      · right
        have : ¬ h ≤ 2500 := fun z => o ⟨o1, z⟩
        omega
      · left
        simpa using o1
end Gp
namespace Gp
open PySem PySem.Spec PyProof.Rows L2
open PySem.W (Codec)
def topS (i : Nat) : Stmt := PySem.Challenge.pw_growerspaid_s01_clean.main.body.getD i (.Pass ⟨0, 0, 0, 0⟩)
abbrev sInit : Stmt := inClass (topS 5) 0
abbrev s_must : Stmt := topS 6
abbrev s_is_load : Stmt := topS 7
abbrev s_earth_of : Stmt := topS 11
abbrev s_clean_of : Stmt := topS 12
abbrev s_sugar_of : Stmt := topS 13
abbrev s_clean : Stmt := topS 15
/-! ### defs, constants; the refusal -/
/-- a def of the top: its text, its name, its binding -/
structure Df (K : PySem.W.Frag) (mg : Str → Option Value) (x : Str) (st : Stmt) (ps : List Str) (f : Addr) (fd : FuncData) : Prop where
  F : Fun K x x st f fd
  g : mg x = some (.ref f)
  b : Binds K fd ps []
/-- a constant of the top -/
def Ct (mg : Str → Option Value) (x : Str) (v : Int) : Prop := ∃ t, mg x = some (.int v t)
theorem pe_ct {X : Cx} {x : Str} {v : Int} {pos : Pos} (c : Ct X.mg x v) (hg : Gl X x := by rfl) (hd : (x == ("__debug__" : Str)) = false := by decide) : PE X (.Name x pos) (tC (.int v)) := by
  obtain ⟨t, h⟩ := c
  exact pe_glob hg h ⟨_, rfl⟩ hd
structure RefT (K : PySem.W.Frag) (mg : Str → Option Value) (C fI : Addr) : Prop where
  gC : mg "Refused" = some (.ref C)
  oex : OexC K C
  xf : XfC K C
  noN : PySem.W.findIn K (.ref C) "number" = some none
  iC : PySem.W.findIn K (.ref C) "__init__" = some (some (.ref fI))
  tI : PySem.W.typeIn K (.ref fI) = some (.type "function")
  te : PySem.W.exmOne K (.ref C) (.ref C) = some true
  mOut : Ct mg "OUT_OF_RANGE" (-22)
/-- the own dict of a refusal -/
abbrev xN : HO := .xd [(("number" : Str), .int (-22))]
theorem lkN {v : V} : List.lookup ("number" : Str) [(("number" : Str), v)] = some v := by simp [List.lookup]
theorem raised_heap {H : Hp} {a d C : Addr} {fs : List (Str × V)} (ha : H a = none) (ne : d ≠ a) :
    upd (del (upd (upd (upd H a (exo a C none)) d (exd d fs)) a (exo a C (some d))) a) d (.xd fs) = upd H d (.xd fs) := by
  funext b
  by_cases h : b = d
  · rw [h, upd_same, upd_same]
  · rw [upd_ne h, upd_ne h]
    by_cases h2 : b = a
    · rw [h2, del_same, ha]
    · rw [del_ne h2, upd_ne h2, upd_ne h, upd_ne h2]
theorem same_new {H : Hp} {d : Addr} {o : HO} (h : H d = none) : Same H (upd H d o) := fun b u e => by
  rw [upd_ne (ne_of_none e h)]
  exact e
theorem line_small {n : Nat} (h : n ≤ 1000) : n ≤ sizeLine := Nat.le_of_lt (small1000 h)
def spInit (C : Addr) : Sp := fun vs H Q _ => ∃ (a : Addr) (v : V), vs = [.ref a, v] ∧ H a = some (exo a C none) ∧
  ∀ dx, H dx = none → dx ≠ a → Q .non (upd (upd H dx (exd dx [(("number" : Str), v)])) a (exo a C (some dx)))
section
variable {P : Program} {w : World} {K : PySem.W.Frag} {mg : Str → Option Value} {base : Heap} {C fI : Addr}
theorem scInit : FnScope ["self", "number"] ["self", "number"] (defScope sInit) := ⟨rfl, rfl, rfl, by decide +kernel, rfl, by decide +kernel, by decide +kernel⟩
theorem ok_init {f : Addr} {fd : FuncData} (F : Fun K "__init__" "Refused.__init__" sInit f fd) (R : RefT K mg C fI) : FnOk P w K mg base CX0 1 f fd ["self", "number"] (spInit C) := by
  refine F.ok scInit (fun vs H Q E h => ?_) (fun cdv A outer s H vs Q E hr h => ⟨_, pss_one (ps_ost (pv 0) (pv 1)), ?_⟩)
  · obtain ⟨a, v, rfl, _⟩ := h
    rfl
  · obtain ⟨a, v, rfl, ha, k⟩ := h
    exact ⟨_, rfl, _, rfl, a, C, rfl, R.oex, R.noN, .inl ⟨ha, fun dx n ne => k dx n ne⟩⟩
end
/-! ### must -/
def spMust (C : Addr) : Sp := fun vs H Q E => ∃ b : Bool, vs = [.bl b] ∧ (b = false → ∀ d : Addr, H d = none → E (.ref C) (some d) (upd H d xN)) ∧ (b = true → Q .non H)
section
variable {P : Program} {w : World} {K : PySem.W.Frag} {mg : Str → Option Value} {base : Heap} {C fI : Addr}
theorem scMust : FnScope ["so"] ["so"] (defScope s_must) := ⟨rfl, rfl, rfl, by decide +kernel, rfl, by decide +kernel, by decide +kernel⟩
theorem ok_must {f : Addr} {fd fdI : FuncData} (D : Df K mg "must" s_must ["so"] f fd) (R : RefT K mg C fI) (FI : Fun K "__init__" "Refused.__init__" sInit fI fdI) (bI : Binds K fdI ["self", "number"] []) :
    FnOk P w K mg base (L2.CX P w) 3 f fd ["so"] (spMust C) := by
  refine D.F.okX scMust (fun vs H Q E h => ?_) (fun cdv A outer s H vs Q E hr h => ⟨_, pss_one (ps_if (pt_not (pt_val (pv 0)))
    (pss_one (ps_raise rfl (takes_of rfl rfl rfl rfl) (pmk_oex R.oex R.iC R.tI (ok_init FI R) hr bI .nil pass0 rfl R.gC (pa_cons (pe_ct R.mOut) pa_nil)))) pss_nil), ?_⟩)
  · obtain ⟨b, rfl, _⟩ := h
    rfl
  · obtain ⟨b, rfl, kF, kT⟩ := h
    refine ⟨_, rfl, b, rfl, ?_⟩
    cases b with
    | true => exact iteF (kT rfl)
    | false =>
      refine iteT ⟨by show 1 ≤ 1000; decide, fun a ha => ⟨a, .int (-22), rfl, upd_same, fun d n ne => ⟨rfl, d, [(("number" : Str), .int (-22))], upd_same, ?_, ?_, ?_⟩⟩⟩
      · rw [upd_ne ne, upd_same]
      · rw [upd_ne ne] at n
        exact n
      · rw [raised_heap ha ne]
        rw [upd_ne ne] at n
        exact kF rfl d n
end
/-! ### is_load -/
def spIsLoad : Sp := fun vs H Q _ => ∃ g e h : Int, vs = [.int g, .int e, .int h] ∧ Q (.bl (okL (g, e, h))) H
section
variable {P : Program} {w : World} {K : PySem.W.Frag} {mg : Str → Option Value} {base : Heap}
theorem scIsLoad : FnScope ["gross", "earth", "held"] ["gross", "earth", "held"] (defScope s_is_load) := ⟨rfl, rfl, rfl, by decide +kernel, rfl, by decide +kernel, by decide +kernel⟩
theorem ok_isload {f : Addr} {fd : FuncData} (D : Df K mg "is_load" s_is_load ["gross", "earth", "held"] f fd) (cW : Ct mg "MOST_WEIGHED" 50000) (cE : Ct mg "MOST_EARTH" 1000) (cH : Ct mg "MOST_HELD" 2500) :
    FnOk P w K mg base CX0 1 f fd ["gross", "earth", "held"] spIsLoad := by
  refine D.F.ok scIsLoad (fun vs H Q E h => ?_) (fun cdv A outer s H vs Q E hr h => ⟨_, pss_one (ps_ret (pe_and (pe_cmp (pc_le (pv 0) (pe_ct cW))) (pe_and (pe_cmp (pc_le (pv 1) (pe_ct cE))) (pe_one (pe_cmp (pc_le (pv 2) (pe_ct cH))))))), ?_⟩)
  · obtain ⟨g, e, h, rfl, _⟩ := h
    rfl
  · obtain ⟨g, e, h, rfl, k⟩ := h
    refine ⟨_, rfl, g, 50000, rfl, rfl, _, rfl, ?_⟩
    refine ite2 (fun (h1 : decide (g ≤ 50000) = true) => ?_) (fun (h1 : ¬ decide (g ≤ 50000) = true) => ?_)
    · refine ⟨_, rfl, e, 1000, rfl, rfl, _, rfl, ?_⟩
      refine ite2 (fun (h2 : decide (e ≤ 1000) = true) => ?_) (fun (h2 : ¬ decide (e ≤ 1000) = true) => ?_)
      · refine ⟨_, rfl, h, 2500, rfl, rfl, ?_⟩
        have q : okL (g, e, h) = decide (h ≤ 2500) := by
          unfold okL
          rw [h1, h2, Bool.true_and, Bool.true_and]
        rw [q] at k
        exact k
      · have q : okL (g, e, h) = false := by
          unfold okL
          rw [h1, Bool.eq_false_iff.mpr h2, Bool.true_and, Bool.false_and]
        rw [q] at k
        exact k
    · have q : okL (g, e, h) = false := by
        unfold okL
        rw [Bool.eq_false_iff.mpr h1, Bool.false_and]
      rw [q] at k
      exact k
end
/-! ### earth_of, clean_of -/
def spEarthOf : Sp := fun vs H Q _ => ∃ g e : Int, vs = [.int g, .int e] ∧ (-(2 ^ 64) < g ∧ g < 2 ^ 64) ∧ Q (.int (g * e / 1000)) H
def spCleanOf : Sp := fun vs H Q _ => ∃ g e : Int, vs = [.int g, .int e] ∧ (-(2 ^ 64) < g ∧ g < 2 ^ 64) ∧ Q (.int (cleanI g e)) H
section
variable {P : Program} {w : World} {K : PySem.W.Frag} {mg : Str → Option Value} {base : Heap}
theorem scEarthOf : FnScope ["gross", "earth"] ["gross", "earth"] (defScope s_earth_of) := ⟨rfl, rfl, rfl, by decide +kernel, rfl, by decide +kernel, by decide +kernel⟩
theorem ok_earthof {f : Addr} {fd : FuncData} (D : Df K mg "earth_of" s_earth_of ["gross", "earth"] f fd) (cT : Ct mg "THOUSAND" 1000) : FnOk P w K mg base CX0 1 f fd ["gross", "earth"] spEarthOf := by
  refine D.F.ok scEarthOf (fun vs H Q E h => ?_) (fun cdv A outer s H vs Q E hr h => ⟨_, pss_one (ps_ret (pe_op op_fdiv (pe_op op_mul (pv 0) (pv 1)) (pe_ct cT))), ?_⟩)
  · obtain ⟨g, e, rfl, _⟩ := h
    rfl
  · obtain ⟨g, e, rfl, hg, k⟩ := h
    exact ⟨_, rfl, _, rfl, _, _, rfl, rfl, .inl hg, _, _, rfl, rfl, ⟨by decide, by decide⟩, k⟩
theorem scCleanOf : FnScope ["gross", "earth"] ["gross", "earth"] (defScope s_clean_of) := ⟨rfl, rfl, rfl, by decide +kernel, rfl, by decide +kernel, by decide +kernel⟩
theorem ok_cleanof {f fE : Addr} {fd fdE : FuncData} (D : Df K mg "clean_of" s_clean_of ["gross", "earth"] f fd) (DE : Df K mg "earth_of" s_earth_of ["gross", "earth"] fE fdE) (GE : FnOk P w K mg base CX0 1 fE fdE ["gross", "earth"] spEarthOf) :
    FnOk P w K mg base CX0 2 f fd ["gross", "earth"] spCleanOf := by
  refine D.F.ok scCleanOf (fun vs H Q E h => ?_) (fun cdv A outer s H vs Q E hr h => ⟨_, pss_one (ps_ret (pe_op op_sub (pv 0) (pe_call GE hr rfl DE.g DE.F.kp DE.b .nil pass0 (pa_cons (pv 0) (pa_cons (pv 1) pa_nil))))), ?_⟩)
  · obtain ⟨g, e, rfl, _⟩ := h
    rfl
  · obtain ⟨g, e, rfl, hg, k⟩ := h
    exact ⟨_, rfl, _, rfl, _, rfl, g, e, rfl, hg, _, _, rfl, rfl, k⟩
end
/-! ### sugar_of -/
def spSugarOf : Sp := fun vs H Q _ => ∃ c h : Int, vs = [.int c, .int h] ∧ (-(2 ^ 64) < c ∧ c < 2 ^ 64) ∧ Q (.int (sugarI c h)) H
section
variable {P : Program} {w : World} {K : PySem.W.Frag} {mg : Str → Option Value} {base : Heap}
theorem scSugarOf : FnScope ["clean", "held"] ["clean", "held"] (defScope s_sugar_of) := ⟨rfl, rfl, rfl, by decide +kernel, rfl, by decide +kernel, by decide +kernel⟩
theorem ok_sugarof {f : Addr} {fd : FuncData} (D : Df K mg "sugar_of" s_sugar_of ["clean", "held"] f fd) (cT : Ct mg "TEN_THOUSAND" 10000) : FnOk P w K mg base CX0 1 f fd ["clean", "held"] spSugarOf := by
  refine D.F.ok scSugarOf (fun vs H Q E h => ?_) (fun cdv A outer s H vs Q E hr h => ⟨_, pss_one (ps_ret (pe_op op_fdiv (pe_op op_mul (pv 0) (pv 1)) (pe_ct cT))), ?_⟩)
  · obtain ⟨c, h, rfl, _⟩ := h
    rfl
  · obtain ⟨c, h, rfl, hg, k⟩ := h
    exact ⟨_, rfl, _, rfl, _, _, rfl, rfl, .inl hg, _, _, rfl, rfl, ⟨by decide, by decide⟩, k⟩
end
/-! ### clean -/
def spMain (K : PySem.W.Frag) : Sp := fun vs H Q _ => ∃ g e h : Int, vs = [.int g, .int e, .int h] ∧ pos3 (g, e, h) ∧
  ∀ (H' : Hp) (p : Addr), H' p = some (.lst ((cleanAns g e h).map V.int)) → Q (.ref p) H'
section
variable {P : Program} {w : World} {K : PySem.W.Frag} {mg : Str → Option Value} {base : Heap} {C fI : Addr}
theorem scMain : FnScope ["gross", "earth", "held", "refusal", "found"] ["gross", "earth", "held"] (defScope s_clean) := ⟨rfl, rfl, rfl, by decide +kernel, rfl, by decide +kernel, by decide +kernel⟩
theorem ok_main {f fM fL fC fS : Addr} {fd fdM fdL fdC fdS : FuncData} (D : Df K mg "clean" s_clean ["gross", "earth", "held"] f fd) (R : RefT K mg C fI)
    (DM : Df K mg "must" s_must ["so"] fM fdM) (GM : FnOk P w K mg base (L2.CX P w) 3 fM fdM ["so"] (spMust C))
    (DL : Df K mg "is_load" s_is_load ["gross", "earth", "held"] fL fdL) (GL : FnOk P w K mg base CX0 1 fL fdL ["gross", "earth", "held"] spIsLoad)
    (DC : Df K mg "clean_of" s_clean_of ["gross", "earth"] fC fdC) (GC : FnOk P w K mg base CX0 2 fC fdC ["gross", "earth"] spCleanOf)
    (DS : Df K mg "sugar_of" s_sugar_of ["clean", "held"] fS fdS) (GS : FnOk P w K mg base CX0 1 fS fdS ["clean", "held"] spSugarOf) : FnOk P w K mg base CX0 5 f fd ["gross", "earth", "held"] (spMain K) := by
  refine D.F.ok scMain (fun vs H Q E h => ?_) (fun cdv A outer s H vs Q E hr h => ⟨_, pss_cons (ps_try_as (i := 3) rfl rfl scMain.nd rfl rfl ⟨rfl, by decide, Or.inl R.gC⟩ takes0
      (fun W pn xe tk _ => pss_one (ps_expr (pe_callS GM (hr.mono (by decide)) rfl DM.g DM.F.kp DM.b (fun σ => passAt tk σ)
        (pa_cons (pe_call GL (hr.mono (by decide)) rfl DL.g DL.F.kp DL.b .nil pass0 (pa_cons (pv 0) (pa_cons (pv 1) (pa_cons (pv 2) pa_nil)))) pa_nil))))
      (fun a oe cls d pn hz hf => pss_one (ps_ret (pe_lst (pa_cons (pe_xf R.xf R.noN hz hf (pv 3)) pa_nil)))))
    (pss_cons (ps_set (i := 4) scMain.nd rfl (Or.inl rfl) (pe_call GC (hr.mono (by decide)) rfl DC.g DC.F.kp DC.b .nil pass0 (pa_cons (pv 0) (pa_cons (pv 1) pa_nil))))
    (pss_one (ps_ret (pe_lst (pa_cons (pv 4) (pa_cons (pe_call GS (hr.mono (by decide)) rfl DS.g DS.F.kp DS.b .nil pass0 (pa_cons (pv 4) (pa_cons (pv 2) pa_nil))) pa_nil)))))), ?_⟩)
  · obtain ⟨g, e, h, rfl, _⟩ := h
    rfl
  · obtain ⟨g, e, h, rfl, hp, k⟩ := h
    refine ⟨_, rfl, _, rfl, _, rfl, g, e, h, rfl, _, rfl, fun o d hd => ?_, fun o => ?_⟩
    · refine ⟨true, R.te, fun _ a _ => ?_, fun q => Bool.noConfusion q⟩
      refine ⟨_, rfl, rfl, rfl, d, _, _, rfl, upd_same, lkN, line_small (n := 1) (by decide), fun p hp => k _ p ?_⟩
      rw [upd_same, cleanAns, if_neg (by rw [o]; decide)]
      rfl
    · have b1 := cleanI_bd hp o
      have b2 := (okL_iff.mp o).1
      have b3 := hp.1
      simp only at b1 b2 b3
      refine ⟨_, rfl, _, rfl, g, e, rfl, ⟨by omega, by omega⟩, ?_⟩
      refine ⟨_, rfl, _, rfl, _, rfl, _, h, rfl, ⟨by omega, by omega⟩, line_small (n := 2) (by decide), fun p hp => k _ p ?_⟩
      rw [upd_same, cleanAns, if_pos o]
      rfl
end
theorem main_spec (K : PySem.W.Frag) (H : Hp) (xs : List V) (a : Codec.denoteAll PySem.Challenge.rw_growerspaid_s01_clean.args) (hwi : Codec.withinAll PySem.Challenge.rw_growerspaid_s01_clean.args a = true)
    (hx : DwAll K H xs (Codec.encAll PySem.Challenge.rw_growerspaid_s01_clean.args a)) :
    spMain K xs H (fun v H' => Dw K H' v (PySem.Challenge.rw_growerspaid_s01_clean.ret.enc (Codec.app PySem.Challenge.rw_growerspaid_s01_clean.args PySem.Challenge.rw_growerspaid_s01_clean.f a))) fun _ _ _ => False := by
  obtain ⟨b, s, h, u⟩ := a
  have q : (Codec.inInt 0 4294967295 b && (Codec.inInt 0 4294967295 s && (Codec.inInt 0 4294967295 h && true))) = true := hwi
  rw [Bool.and_eq_true, Bool.and_eq_true, Bool.and_eq_true, Codec.inInt_iff, Codec.inInt_iff, Codec.inInt_iff] at q
  cases hx with
  | cons h1 h2 =>
    cases h2 with
    | cons h2 h3 =>
      cases h3 with
      | cons h3 h4 =>
        cases h4
        cases h1
        cases h2
        cases h3
        have ps : pos3 (b, s, h) := ⟨q.1.1, q.2.1.1, q.2.2.1.1⟩
        refine ⟨b, s, h, rfl, ps, fun H' p hp => ?_⟩
        show Dw K H' (.ref p) (.list ((PyKzb6.clean b s h).map PySem.W.WData.int))
        rw [s01_is ps]
        exact .lst (SqL.of hp) (dw_ints _)
/-! ### the end: what the top has written -/
theorem exm_self {K : PySem.W.Frag} {S : Addr} (h1 : PySem.W.subIn K (.ref S) (.type "BaseException") = some true) (h2 : PySem.W.isClsIn K S = true) (h3 : PySem.W.typeIn K (.ref S) = some (.type "type")) (h4 : PySem.W.subIn K (.ref S) (.ref S) = some true) :
    PySem.W.exmOne K (.ref S) (.ref S) = some true := by
  have e1 : (PySem.W.subIn K (.ref S) (.type "BaseException") == some true) = true := by rw [h1] <;> rfl
  have e2 : ((PySem.W.clsIn K S).isSome && PySem.W.typeIn K (.ref S) == some (.type "type")) = true := by
    have h2' : (PySem.W.clsIn K S).isSome = true := h2
    rw [h2', h3] <;> rfl
  show (if (PySem.W.subIn K (.ref S) (.type "BaseException") == some true) = true then (if ((PySem.W.clsIn K S).isSome && PySem.W.typeIn K (.ref S) == some (.type "type")) = true then PySem.W.subIn K (.ref S) (.ref S) else none) else none) = some true
  rw [if_pos e1, if_pos e2]
  exact h4
theorem all_mk {P : Program} {w : World} {K : PySem.W.Frag} {h : Heap} {mg : Str → Option Value} {fa C f0 : Addr}
    {f_must f_is_load f_earth_of f_clean_of f_sugar_of f_clean : Addr}
    {od0 an0 : Option Addr} {sl0 : Array (Option Value)} {oc0 kV0 dc0 pm0 cd0 ct0 : Value}
    {od_must an_must : Option Addr} {sl_must : Array (Option Value)} {oc_must kV_must dc_must pm_must cd_must ct_must : Value}
    {od_is_load an_is_load : Option Addr} {sl_is_load : Array (Option Value)} {oc_is_load kV_is_load dc_is_load pm_is_load cd_is_load ct_is_load : Value}
    {od_earth_of an_earth_of : Option Addr} {sl_earth_of : Array (Option Value)} {oc_earth_of kV_earth_of dc_earth_of pm_earth_of cd_earth_of ct_earth_of : Value}
    {od_clean_of an_clean_of : Option Addr} {sl_clean_of : Array (Option Value)} {oc_clean_of kV_clean_of dc_clean_of pm_clean_of cd_clean_of ct_clean_of : Value}
    {od_sugar_of an_sugar_of : Option Addr} {sl_sugar_of : Array (Option Value)} {oc_sugar_of kV_sugar_of dc_sugar_of pm_sugar_of cd_sugar_of ct_sugar_of : Value}
    {od_clean an_clean : Option Addr} {sl_clean : Array (Option Value)} {oc_clean kV_clean dc_clean pm_clean cd_clean ct_clean : Value}
    {nm q : Str} {N : Addr} {bs : List Value} {sn : List Str} {sub : List Value} {ab : Bool} {col : Option Bool} {dd : Option Addr} {m0 m1 m2 m3 m5 : Option Value}
    {t_OUT_OF_RANGE t_MOST_WEIGHED t_MOST_EARTH t_MOST_HELD t_THOUSAND t_TEN_THOUSAND : Tok}
    (X : K.In h) (G : h.Ns mainGlobals mg) (hfa : mg "clean" = some (.ref fa))
    (aC : PySem.W.nsIn K mainGlobals "Refused" = some (some (.ref C)))
    (xL : K.lookup C = some (excClassObj nm q C N bs [.type "ValueError", .type "Exception", .type "BaseException", .type "object"] true sn sub ab col dd m0 m1 m2 m3 m5 "ValueError.__new__"))
    (sa : PySem.W.findIn K (.ref C) "__setattr__" = some (some (.builtin "object.__setattr__")))
    (ga : PySem.W.findIn K (.ref C) "__getattribute__" = some (some (.builtin "BaseException.__getattribute__")))
    (gg : PySem.W.findIn K (.ref C) "__getattr__" = some none)
    (nb : PySem.W.findIn K (.ref C) "number" = some none)
    (a0 : PySem.W.findIn K (.ref C) "__init__" = some (some (.ref f0)))
    (t0 : PySem.W.typeIn K (.ref f0) = some (.type "function"))
    (l0 : K.lookup f0 = some ⟨oc0, od0, .func (PySem.W.fnOf "__init__" "Refused.__init__" (defArgs sInit) (defBody sInit) (defScope sInit) .none kV0 dc0 pm0 an0 cd0 ct0), sl0⟩)
    (c0 : PySem.W.codeIn K cd0 "Refused.__init__" = true)
    (k0 : PySem.W.keepIn K (.ref f0) = true)
    (kC : PySem.W.keepIn K (.ref C) = true)
    (eC : PySem.W.subIn K (.ref C) (.type "BaseException") = some true)
    (tC : PySem.W.typeIn K (.ref C) = some (.type "type"))
    (hC : PySem.W.hasDictIn K C = true)
    (iC : PySem.W.isClsIn K C = true)
    (sC : PySem.W.subIn K (.ref C) (.ref C) = some true)
    (a_must : PySem.W.nsIn K mainGlobals "must" = some (some (.ref f_must)))
    (l_must : K.lookup f_must = some ⟨oc_must, od_must, .func (PySem.W.fnOf "must" "must" (defArgs s_must) (defBody s_must) (defScope s_must) .none kV_must dc_must pm_must an_must cd_must ct_must), sl_must⟩)
    (c_must : PySem.W.codeIn K cd_must "must" = true)
    (k_must : PySem.W.keepIn K (.ref f_must) = true)
    (a_is_load : PySem.W.nsIn K mainGlobals "is_load" = some (some (.ref f_is_load)))
    (l_is_load : K.lookup f_is_load = some ⟨oc_is_load, od_is_load, .func (PySem.W.fnOf "is_load" "is_load" (defArgs s_is_load) (defBody s_is_load) (defScope s_is_load) .none kV_is_load dc_is_load pm_is_load an_is_load cd_is_load ct_is_load), sl_is_load⟩)
    (c_is_load : PySem.W.codeIn K cd_is_load "is_load" = true)
    (k_is_load : PySem.W.keepIn K (.ref f_is_load) = true)
    (a_earth_of : PySem.W.nsIn K mainGlobals "earth_of" = some (some (.ref f_earth_of)))
    (l_earth_of : K.lookup f_earth_of = some ⟨oc_earth_of, od_earth_of, .func (PySem.W.fnOf "earth_of" "earth_of" (defArgs s_earth_of) (defBody s_earth_of) (defScope s_earth_of) .none kV_earth_of dc_earth_of pm_earth_of an_earth_of cd_earth_of ct_earth_of), sl_earth_of⟩)
    (c_earth_of : PySem.W.codeIn K cd_earth_of "earth_of" = true)
    (k_earth_of : PySem.W.keepIn K (.ref f_earth_of) = true)
    (a_clean_of : PySem.W.nsIn K mainGlobals "clean_of" = some (some (.ref f_clean_of)))
    (l_clean_of : K.lookup f_clean_of = some ⟨oc_clean_of, od_clean_of, .func (PySem.W.fnOf "clean_of" "clean_of" (defArgs s_clean_of) (defBody s_clean_of) (defScope s_clean_of) .none kV_clean_of dc_clean_of pm_clean_of an_clean_of cd_clean_of ct_clean_of), sl_clean_of⟩)
    (c_clean_of : PySem.W.codeIn K cd_clean_of "clean_of" = true)
    (k_clean_of : PySem.W.keepIn K (.ref f_clean_of) = true)
    (a_sugar_of : PySem.W.nsIn K mainGlobals "sugar_of" = some (some (.ref f_sugar_of)))
    (l_sugar_of : K.lookup f_sugar_of = some ⟨oc_sugar_of, od_sugar_of, .func (PySem.W.fnOf "sugar_of" "sugar_of" (defArgs s_sugar_of) (defBody s_sugar_of) (defScope s_sugar_of) .none kV_sugar_of dc_sugar_of pm_sugar_of an_sugar_of cd_sugar_of ct_sugar_of), sl_sugar_of⟩)
    (c_sugar_of : PySem.W.codeIn K cd_sugar_of "sugar_of" = true)
    (k_sugar_of : PySem.W.keepIn K (.ref f_sugar_of) = true)
    (a_clean : PySem.W.nsIn K mainGlobals "clean" = some (some (.ref f_clean)))
    (l_clean : K.lookup f_clean = some ⟨oc_clean, od_clean, .func (PySem.W.fnOf "clean" "clean" (defArgs s_clean) (defBody s_clean) (defScope s_clean) .none kV_clean dc_clean pm_clean an_clean cd_clean ct_clean), sl_clean⟩)
    (c_clean : PySem.W.codeIn K cd_clean "clean" = true)
    (k_clean : PySem.W.keepIn K (.ref f_clean) = true)
    (n_OUT_OF_RANGE : PySem.W.nsIn K mainGlobals "OUT_OF_RANGE" = some (some (.int (-22) t_OUT_OF_RANGE)))
    (n_MOST_WEIGHED : PySem.W.nsIn K mainGlobals "MOST_WEIGHED" = some (some (.int (50000) t_MOST_WEIGHED)))
    (n_MOST_EARTH : PySem.W.nsIn K mainGlobals "MOST_EARTH" = some (some (.int (1000) t_MOST_EARTH)))
    (n_MOST_HELD : PySem.W.nsIn K mainGlobals "MOST_HELD" = some (some (.int (2500) t_MOST_HELD)))
    (n_THOUSAND : PySem.W.nsIn K mainGlobals "THOUSAND" = some (some (.int (1000) t_THOUSAND)))
    (n_TEN_THOUSAND : PySem.W.nsIn K mainGlobals "TEN_THOUSAND" = some (some (.int (10000) t_TEN_THOUSAND))) :
    ∃ fd : FuncData, (∀ (s : Shared) (us : List Value), us.length = (["gross", "earth", "held"] : List Str).length → BindsTo s fd ⟨us, []⟩ ((["gross", "earth", "held"] : List Str).zip us)) ∧ ∀ base : Heap, K.In base → base.Ns mainGlobals mg → FnOk P w K mg base CX0 5 fa fd ["gross", "earth", "held"] (spMain K) := by
  have e : f_clean = fa := by
    have z := (PySem.W.mg_of X G a_clean).symm.trans hfa
    cases z
    rfl
  subst e
  have R : RefT K mg C f0 := ⟨PySem.W.mg_of X G aC, ⟨⟨nm, q, N, bs, _, sn, sub, ab, col, dd, m0, m1, m2, m3, m5, xL, by decide +kernel⟩, sa, eC, tC, kC⟩, ⟨ga, gg, eC, hC⟩, nb, a0, t0, exm_self eC iC tC sC, ⟨_, PySem.W.mg_of X G n_OUT_OF_RANGE⟩⟩
  have F0 := fun_mk (st := sInit) l0 c0 k0
  have b0 := F0.binds (ps := ["self", "number"]) fun _ _ _ _ _ _ us hl => match us, hl with | [_, _], _ => rfl
  have F_must := fun_mk (st := s_must) l_must c_must k_must
  have D_must : Df K mg "must" s_must ["so"] f_must _ := ⟨F_must, PySem.W.mg_of X G a_must, F_must.binds (ps := ["so"]) fun _ _ _ _ _ _ us hl => match us, hl with | [_], _ => rfl⟩
  have F_is_load := fun_mk (st := s_is_load) l_is_load c_is_load k_is_load
  have D_is_load : Df K mg "is_load" s_is_load ["gross", "earth", "held"] f_is_load _ := ⟨F_is_load, PySem.W.mg_of X G a_is_load, F_is_load.binds (ps := ["gross", "earth", "held"]) fun _ _ _ _ _ _ us hl => match us, hl with | [_, _, _], _ => rfl⟩
  have F_earth_of := fun_mk (st := s_earth_of) l_earth_of c_earth_of k_earth_of
  have D_earth_of : Df K mg "earth_of" s_earth_of ["gross", "earth"] f_earth_of _ := ⟨F_earth_of, PySem.W.mg_of X G a_earth_of, F_earth_of.binds (ps := ["gross", "earth"]) fun _ _ _ _ _ _ us hl => match us, hl with | [_, _], _ => rfl⟩
  have F_clean_of := fun_mk (st := s_clean_of) l_clean_of c_clean_of k_clean_of
  have D_clean_of : Df K mg "clean_of" s_clean_of ["gross", "earth"] f_clean_of _ := ⟨F_clean_of, PySem.W.mg_of X G a_clean_of, F_clean_of.binds (ps := ["gross", "earth"]) fun _ _ _ _ _ _ us hl => match us, hl with | [_, _], _ => rfl⟩
  have F_sugar_of := fun_mk (st := s_sugar_of) l_sugar_of c_sugar_of k_sugar_of
  have D_sugar_of : Df K mg "sugar_of" s_sugar_of ["clean", "held"] f_sugar_of _ := ⟨F_sugar_of, PySem.W.mg_of X G a_sugar_of, F_sugar_of.binds (ps := ["clean", "held"]) fun _ _ _ _ _ _ us hl => match us, hl with | [_, _], _ => rfl⟩
  have F_clean := fun_mk (st := s_clean) l_clean c_clean k_clean
  have D_clean : Df K mg "clean" s_clean ["gross", "earth", "held"] f_clean _ := ⟨F_clean, PySem.W.mg_of X G a_clean, F_clean.binds (ps := ["gross", "earth", "held"]) fun _ _ _ _ _ _ us hl => match us, hl with | [_, _, _], _ => rfl⟩
  have C_OUT_OF_RANGE : Ct mg "OUT_OF_RANGE" (-22) := ⟨_, PySem.W.mg_of X G n_OUT_OF_RANGE⟩
  have C_MOST_WEIGHED : Ct mg "MOST_WEIGHED" (50000) := ⟨_, PySem.W.mg_of X G n_MOST_WEIGHED⟩
  have C_MOST_EARTH : Ct mg "MOST_EARTH" (1000) := ⟨_, PySem.W.mg_of X G n_MOST_EARTH⟩
  have C_MOST_HELD : Ct mg "MOST_HELD" (2500) := ⟨_, PySem.W.mg_of X G n_MOST_HELD⟩
  have C_THOUSAND : Ct mg "THOUSAND" (1000) := ⟨_, PySem.W.mg_of X G n_THOUSAND⟩
  have C_TEN_THOUSAND : Ct mg "TEN_THOUSAND" (10000) := ⟨_, PySem.W.mg_of X G n_TEN_THOUSAND⟩
  refine ⟨PySem.W.fnOf "clean" "clean" (defArgs s_clean) (defBody s_clean) (defScope s_clean) .none kV_clean dc_clean pm_clean an_clean cd_clean ct_clean, fun s us hu => match us, hu with | [_, _, _], _ => .of_eq rfl, fun base _ _ => ?_⟩
  have GM : FnOk P w K mg base (L2.CX P w) 3 f_must _ ["so"] (spMust C) := ok_must D_must R F0 b0
  exact ok_main D_clean R D_must GM D_is_load (ok_isload D_is_load C_MOST_WEIGHED C_MOST_EARTH C_MOST_HELD) D_clean_of (ok_cleanof D_clean_of D_earth_of (ok_earthof D_earth_of C_THOUSAND)) D_sugar_of (ok_sugarof D_sugar_of C_TEN_THOUSAND)
end Gp
open PySem PySem.W PyProof.Rows
set_option maxRecDepth 100000 in
set_option maxHeartbeats 8000000 in
theorem PySem.Challenge.cw_growerspaid_s01_clean_holds : PySem.Challenge.rw_growerspaid_s01_clean.Holds := by
  w_on; k_headS; (case hw => exact ⟨[.int 0, .int 0, .int 0], by decide +kernel, by decide +kernel⟩)
  k_fillS
  refine L2.walk_specK (r := PySem.Challenge.rw_growerspaid_s01_clean) (k := 5) (CX := L2.CX0) (ps := ["gross", "earth", "held"]) (sp := Gp.spMain) (by decide +kernel) rfl rfl ⟨rfl, by decide, by decide⟩ (fun w h Y => PySem.W.kIn_of Y) ?F ?S (fun _ _ _ _ z => z)
  case F =>
    intro w mg fa h Y KX G hmg
    refine' Gp.all_mk KX G hmg ?aC ?xL ?sa ?ga ?gg ?nb ?a0 ?t0 ?l0 ?c0 ?k0 ?kC ?eC ?tC ?hC ?iC ?sC ?a_must ?l_must ?c_must ?k_must ?a_is_load ?l_is_load ?c_is_load ?k_is_load ?a_earth_of ?l_earth_of ?c_earth_of ?k_earth_of ?a_clean_of ?l_clean_of ?c_clean_of ?k_clean_of ?a_sugar_of ?l_sugar_of ?c_sugar_of ?k_sugar_of ?a_clean ?l_clean ?c_clean ?k_clean ?n_OUT_OF_RANGE ?n_MOST_WEIGHED ?n_MOST_EARTH ?n_MOST_HELD ?n_THOUSAND ?n_TEN_THOUSAND
    (case aC => k_is)
    (case xL => k_is)
    (case sa => k_is)
    (case ga => k_is)
    (case gg => k_is)
    (case nb => k_is)
    (case a0 => k_is)
    (case t0 => k_is)
    (case l0 => k_is)
    (case c0 => k_is)
    (case k0 => k_is)
    (case kC => k_is)
    (case eC => k_is)
    (case tC => k_is)
    (case hC => k_is)
    (case iC => k_is)
    (case sC => first | rfl | k_is)
    (case a_must => k_is)
    (case l_must => k_is)
    (case c_must => k_is)
    (case k_must => k_is)
    (case a_is_load => k_is)
    (case l_is_load => k_is)
    (case c_is_load => k_is)
    (case k_is_load => k_is)
    (case a_earth_of => k_is)
    (case l_earth_of => k_is)
    (case c_earth_of => k_is)
    (case k_earth_of => k_is)
    (case a_clean_of => k_is)
    (case l_clean_of => k_is)
    (case c_clean_of => k_is)
    (case k_clean_of => k_is)
    (case a_sugar_of => k_is)
    (case l_sugar_of => k_is)
    (case c_sugar_of => k_is)
    (case k_sugar_of => k_is)
    (case a_clean => k_is)
    (case l_clean => k_is)
    (case c_clean => k_is)
    (case k_clean => k_is)
    (case n_OUT_OF_RANGE => k_is)
    (case n_MOST_WEIGHED => k_is)
    (case n_MOST_EARTH => k_is)
    (case n_MOST_HELD => k_is)
    (case n_THOUSAND => k_is)
    (case n_TEN_THOUSAND => k_is)
  case S =>
    intro K H xs a hO hwi hask hx
    exact Gp.main_spec K H xs a hwi hx
#print axioms PySem.Challenge.cw_growerspaid_s01_clean_holds
