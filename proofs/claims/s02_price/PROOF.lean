import PyProof.Rows.All
import Wide.All
import OpenK.AllK
import Wide.FinOn
import PyProof.EqAt
import PyProof.EqKinds
import PyProof.TupleCall
import Open.SpecLaws
import KE.OsGo
import PySem.Challenge.RW_growerspaid_s02_price
import HandS.ForSpec
import HandS.ExcInit
import HandS.ExcField
set_option Elab.async false
set_option linter.all false
set_option maxRecDepth 100000
set_option maxHeartbeats 4000000
namespace Gp
def okL (x : Int × Int × Int) : Bool := decide (x.1 ≤ 50000) && (decide (x.2.1 ≤ 1000) && decide (x.2.2 ≤ 2500))
def cleanI (g e : Int) : Int := g - g * e / 1000
def sugarI (c h : Int) : Int := c * h / 10000
def priceI (b s h : Int) : Int := if b + s * (h - 1600) > 0 then b + s * (h - 1600) else 0
def nat3 (x : Int × Int × Int) : Kzb6.Load := ⟨x.1.toNat, x.2.1.toNat, x.2.2.toNat⟩
def pos3 (x : Int × Int × Int) : Prop := 0 ≤ x.1 ∧ 0 ≤ x.2.1 ∧ 0 ≤ x.2.2
theorem okL_iff {x : Int × Int × Int} : okL x = true ↔ x.1 ≤ 50000 ∧ x.2.1 ≤ 1000 ∧ x.2.2 ≤ 2500 := by
  unfold okL
  simp only [Bool.and_eq_true, decide_eq_true_eq]
theorem okLoad_is {x : Int × Int × Int} : Kzb6.okLoad (nat3 x) = okL x := by
  apply Bool.eq_iff_iff.mpr
  rw [okL_iff]
  unfold Kzb6.okLoad nat3
  simp only [Bool.and_eq_true, decide_eq_true_eq]
  omega
theorem mulc (a b : Nat) : ((a : Int) * (b : Int)) = ((a * b : Nat) : Int) := by rw [Int.natCast_mul]
theorem clean_le (g e : Nat) (h : e ≤ 1000) : g * e / 1000 ≤ g := by
  have h1 : g * e ≤ g * 1000 := Nat.mul_le_mul_left g h
  omega
theorem clean_is {x : Int × Int × Int} (p : pos3 x) (o : okL x = true) : ((Kzb6.clean (nat3 x) : Nat) : Int) = cleanI x.1 x.2.1 := by
  obtain ⟨g, e, h⟩ := x
  obtain ⟨p1, p2, p3⟩ := p
  obtain ⟨_, o2, _⟩ := okL_iff.mp o
  obtain ⟨g, rfl⟩ := Int.eq_ofNat_of_zero_le p1
  obtain ⟨e, rfl⟩ := Int.eq_ofNat_of_zero_le p2
  have o2 : e ≤ 1000 := by simp only at o2; omega
  have q := clean_le g e o2
  show ((g - g * e / 1000 : Nat) : Int) = (g : Int) - (g : Int) * (e : Int) / 1000
  rw [mulc]
  omega
theorem sugar_is {x : Int × Int × Int} (p : pos3 x) (o : okL x = true) : ((Kzb6.sugar (nat3 x) : Nat) : Int) = sugarI (cleanI x.1 x.2.1) x.2.2 := by
  have c := clean_is p o
  unfold Kzb6.sugar sugarI
  rw [← c]
  obtain ⟨g, e, h⟩ := x
  obtain ⟨_, _, p3⟩ := p
  obtain ⟨h, rfl⟩ := Int.eq_ofNat_of_zero_le p3
  show ((Kzb6.clean _ * h / 10000 : Nat) : Int) = (Kzb6.clean _ : Int) * (h : Int) / 10000
  rw [mulc]
  omega
theorem cleanI_bd {x : Int × Int × Int} (p : pos3 x) (o : okL x = true) : 0 ≤ cleanI x.1 x.2.1 ∧ cleanI x.1 x.2.1 ≤ 50000 := by
  have c := clean_is p o
  have k : Kzb6.clean (nat3 x) ≤ x.1.toNat := Nat.sub_le _ _
  obtain ⟨o1, _, _⟩ := okL_iff.mp o
  have p1 := p.1
  omega
/-- s01 -/
def cleanAns (g e h : Int) : List Int := if okL (g, e, h) = true then [cleanI g e, sugarI (cleanI g e) h] else [-22]
theorem s01_is {g e h : Int} (p : pos3 (g, e, h)) : PyKzb6.clean g e h = cleanAns g e h := by
  unfold cleanAns PyKzb6.clean Kzb6Neutral.f
  show (Kzb6.answer (.clean g.toNat e.toNat h.toNat)).value :: Kzb6Neutral.ints (Kzb6.answer (.clean g.toNat e.toNat h.toNat)).nums = _
  have k : Kzb6.okLoad ⟨g.toNat, e.toNat, h.toNat⟩ = okL (g, e, h) := okLoad_is (x := (g, e, h))
  unfold Kzb6.answer
  simp only [k]
  by_cases o : okL (g, e, h) = true
  · rw [if_pos o, if_neg (by rw [o]; decide)]
    show ((Kzb6.clean (nat3 (g, e, h)) : Nat) : Int) :: [((Kzb6.sugar (nat3 (g, e, h)) : Nat) : Int)] = _
    rw [clean_is p o, sugar_is p o]
  · rw [if_neg o, if_pos (by simpa using o)]
    rfl
/-- s02 -/
def okT (b s : Int) : Bool := decide (b ≤ 10000) && decide (s ≤ 10)
theorem okT_iff {b s : Int} : okT b s = true ↔ b ≤ 10000 ∧ s ≤ 10 := by
  unfold okT
  simp only [Bool.and_eq_true, decide_eq_true_eq]
theorem okTerms_is {b s : Int} : Kzb6.okTerms ⟨b.toNat, s.toNat⟩ = okT b s := by
  apply Bool.eq_iff_iff.mpr
  rw [okT_iff]
  unfold Kzb6.okTerms
  simp only [Bool.and_eq_true, decide_eq_true_eq]
  omega
theorem price_is {b s h : Int} (hb : 0 ≤ b) (hs : 0 ≤ s) (hh : 0 ≤ h) : ((Kzb6.price ⟨b.toNat, s.toNat⟩ h.toNat : Nat) : Int) = priceI b s h := by
  obtain ⟨b, rfl⟩ := Int.eq_ofNat_of_zero_le hb
  obtain ⟨s, rfl⟩ := Int.eq_ofNat_of_zero_le hs
  obtain ⟨h, rfl⟩ := Int.eq_ofNat_of_zero_le hh
  show (((if 1600 ≤ h then b + s * (h - 1600) else b - s * (1600 - h)) : Nat) : Int) = (if (b : Int) + s * ((h : Int) - 1600) > 0 then (b : Int) + s * ((h : Int) - 1600) else 0)
  by_cases c : 1600 ≤ h
  · rw [if_pos c]
    obtain ⟨d, rfl⟩ := Nat.exists_eq_add_of_le c
    have e1 : ((1600 + d : Nat) : Int) - 1600 = (d : Int) := by omega
    have e2 : 1600 + d - 1600 = d := by omega
    rw [e1, e2, mulc]
    split <;> omega
  · rw [if_neg c]
    obtain ⟨d, e⟩ := Nat.exists_eq_add_of_le (Nat.le_of_not_le c)
    have e1 : (h : Int) - 1600 = -(d : Int) := by omega
    have e2 : 1600 - h = d := by omega
    rw [e1, e2, Int.mul_neg, mulc]
    split <;> omega
def priceAns (b s h : Int) : List Int := if okT b s = true ∧ h ≤ 2500 then [priceI b s h] else [-22]
theorem s02_is {b s h : Int} (hb : 0 ≤ b) (hs : 0 ≤ s) (hh : 0 ≤ h) : PyKzb6.price b s h = priceAns b s h := by
  unfold priceAns PyKzb6.price Kzb6Neutral.f
  show (Kzb6.answer (.price b.toNat s.toNat h.toNat)).value :: Kzb6Neutral.ints (Kzb6.answer (.price b.toNat s.toNat h.toNat)).nums = _
  unfold Kzb6.answer
  simp only [okTerms_is]
  by_cases o : okT b s = true ∧ h ≤ 2500
  · rw [if_pos o, if_neg (by rw [o.1]; intro z; rcases z with z | z; exact absurd z (by decide); omega)]
    show ((Kzb6.price ⟨b.toNat, s.toNat⟩ h.toNat : Nat) : Int) :: [] = _
    rw [price_is hb hs hh]
  · rw [if_neg o, if_pos]
    · rfl
    · by_cases o1 : okT b s = true
      · right
        have : ¬ h ≤ 2500 := fun z => o ⟨o1, z⟩
        omega
      · left
        simpa using o1
end Gp
namespace Gp
open PySem PySem.Spec PyProof.Rows L2
open PySem.W (Codec)
def topS (i : Nat) : Stmt := PySem.Challenge.pw_growerspaid_s02_price.main.body.getD i (.Pass ⟨0, 0, 0, 0⟩)
abbrev sInit : Stmt := inClass (topS 5) 0
abbrev s_must : Stmt := topS 6
abbrev s_look_at_terms : Stmt := topS 7
abbrev s_price_of : Stmt := topS 10
abbrev s_price : Stmt := topS 12
/-! ### defs, constants; the refusal -/
/-- a def of the top: its text, its name, its binding -/
structure Df (K : PySem.W.Frag) (mg : Str → Option Value) (x : Str) (st : Stmt) (ps : List Str) (f : Addr) (fd : FuncData) : Prop where
  F : Fun K x x st f fd
  g : mg x = some (.ref f)
  b : Binds K fd ps []
/-- a constant of the top -/
def Ct (mg : Str → Option Value) (x : Str) (v : Int) : Prop := ∃ t, mg x = some (.int v t)
theorem pe_ct {X : Cx} {x : Str} {v : Int} {pos : Pos} (c : Ct X.mg x v) (hg : Gl X x := by rfl) (hd : (x == ("__debug__" : Str)) = false := by decide) : PE X (.Name x pos) (tC (.int v)) := by
  obtain ⟨t, h⟩ := c
  exact pe_glob hg h ⟨_, rfl⟩ hd
structure RefT (K : PySem.W.Frag) (mg : Str → Option Value) (C fI : Addr) : Prop where
  gC : mg "Refused" = some (.ref C)
  oex : OexC K C
  xf : XfC K C
  noN : PySem.W.findIn K (.ref C) "number" = some none
  iC : PySem.W.findIn K (.ref C) "__init__" = some (some (.ref fI))
  tI : PySem.W.typeIn K (.ref fI) = some (.type "function")
  te : PySem.W.exmOne K (.ref C) (.ref C) = some true
  mOut : Ct mg "OUT_OF_RANGE" (-22)
/-- the own dict of a refusal -/
abbrev xN : HO := .xd [(("number" : Str), .int (-22))]
theorem lkN {v : V} : List.lookup ("number" : Str) [(("number" : Str), v)] = some v := by simp [List.lookup]
theorem raised_heap {H : Hp} {a d C : Addr} {fs : List (Str × V)} (ha : H a = none) (ne : d ≠ a) :
    upd (del (upd (upd (upd H a (exo a C none)) d (exd d fs)) a (exo a C (some d))) a) d (.xd fs) = upd H d (.xd fs) := by
  funext b
  by_cases h : b = d
  · rw [h, upd_same, upd_same]
  · rw [upd_ne h, upd_ne h]
    by_cases h2 : b = a
    · rw [h2, del_same, ha]
    · rw [del_ne h2, upd_ne h2, upd_ne h, upd_ne h2]
theorem same_new {H : Hp} {d : Addr} {o : HO} (h : H d = none) : Same H (upd H d o) := fun b u e => by
  rw [upd_ne (ne_of_none e h)]
  exact e
theorem line_small {n : Nat} (h : n ≤ 1000) : n ≤ sizeLine := Nat.le_of_lt (small1000 h)
def spInit (C : Addr) : Sp := fun vs H Q _ => ∃ (a : Addr) (v : V), vs = [.ref a, v] ∧ H a = some (exo a C none) ∧
  ∀ dx, H dx = none → dx ≠ a → Q .non (upd (upd H dx (exd dx [(("number" : Str), v)])) a (exo a C (some dx)))
section
variable {P : Program} {w : World} {K : PySem.W.Frag} {mg : Str → Option Value} {base : Heap} {C fI : Addr}
theorem scInit : FnScope ["self", "number"] ["self", "number"] (defScope sInit) := ⟨rfl, rfl, rfl, by decide +kernel, rfl, by decide +kernel, by decide +kernel⟩
theorem ok_init {f : Addr} {fd : FuncData} (F : Fun K "__init__" "Refused.__init__" sInit f fd) (R : RefT K mg C fI) : FnOk P w K mg base CX0 1 f fd ["self", "number"] (spInit C) := by
  refine F.ok scInit (fun vs H Q E h => ?_) (fun cdv A outer s H vs Q E hr h => ⟨_, pss_one (ps_ost (pv 0) (pv 1)), ?_⟩)
  · obtain ⟨a, v, rfl, _⟩ := h
    rfl
  · obtain ⟨a, v, rfl, ha, k⟩ := h
    exact ⟨_, rfl, _, rfl, a, C, rfl, R.oex, R.noN, .inl ⟨ha, fun dx n ne => k dx n ne⟩⟩
end
/-! ### must -/
def spMust (C : Addr) : Sp := fun vs H Q E => ∃ b : Bool, vs = [.bl b] ∧ (b = false → ∀ d : Addr, H d = none → E (.ref C) (some d) (upd H d xN)) ∧ (b = true → Q .non H)
section
variable {P : Program} {w : World} {K : PySem.W.Frag} {mg : Str → Option Value} {base : Heap} {C fI : Addr}
theorem scMust : FnScope ["so"] ["so"] (defScope s_must) := ⟨rfl, rfl, rfl, by decide +kernel, rfl, by decide +kernel, by decide +kernel⟩
theorem ok_must {f : Addr} {fd fdI : FuncData} (D : Df K mg "must" s_must ["so"] f fd) (R : RefT K mg C fI) (FI : Fun K "__init__" "Refused.__init__" sInit fI fdI) (bI : Binds K fdI ["self", "number"] []) :
    FnOk P w K mg base (L2.CX P w) 3 f fd ["so"] (spMust C) := by
  refine D.F.okX scMust (fun vs H Q E h => ?_) (fun cdv A outer s H vs Q E hr h => ⟨_, pss_one (ps_if (pt_not (pt_val (pv 0)))
    (pss_one (ps_raise rfl (takes_of rfl rfl rfl rfl) (pmk_oex R.oex R.iC R.tI (ok_init FI R) hr bI .nil pass0 rfl R.gC (pa_cons (pe_ct R.mOut) pa_nil)))) pss_nil), ?_⟩)
  · obtain ⟨b, rfl, _⟩ := h
    rfl
  · obtain ⟨b, rfl, kF, kT⟩ := h
    refine ⟨_, rfl, b, rfl, ?_⟩
    cases b with
    | true => exact iteF (kT rfl)
    | false =>
      refine iteT ⟨by show 1 ≤ 1000; decide, fun a ha => ⟨a, .int (-22), rfl, upd_same, fun d n ne => ⟨rfl, d, [(("number" : Str), .int (-22))], upd_same, ?_, ?_, ?_⟩⟩⟩
      · rw [upd_ne ne, upd_same]
      · rw [upd_ne ne] at n
        exact n
      · rw [raised_heap ha ne]
        rw [upd_ne ne] at n
        exact kF rfl d n
end
/-! ### look_at_terms -/
def spTerms (C : Addr) : Sp := fun vs H Q E => ∃ b s : Int, vs = [.int b, .int s] ∧ (okT b s = false → ∀ d : Addr, H d = none → E (.ref C) (some d) (upd H d xN)) ∧ (okT b s = true → Q .non H)
section
variable {P : Program} {w : World} {K : PySem.W.Frag} {mg : Str → Option Value} {base : Heap} {C fI : Addr}
theorem scTerms : FnScope ["base", "step"] ["base", "step"] (defScope s_look_at_terms) := ⟨rfl, rfl, rfl, by decide +kernel, rfl, by decide +kernel, by decide +kernel⟩
theorem ok_terms {f fM : Addr} {fd fdM : FuncData} (D : Df K mg "look_at_terms" s_look_at_terms ["base", "step"] f fd) (DM : Df K mg "must" s_must ["so"] fM fdM) (GM : FnOk P w K mg base (L2.CX P w) 3 fM fdM ["so"] (spMust C))
    (cB : Ct mg "MOST_BASE" 10000) (cS : Ct mg "MOST_STEP" 10) : FnOk P w K mg base (L2.CX P w) 4 f fd ["base", "step"] (spTerms C) := by
  refine D.F.okX scTerms (fun vs H Q E h => ?_) (fun cdv A outer s H vs Q E hr h => ⟨_, pss_one (ps_expr (pe_callS GM hr rfl DM.g DM.F.kp DM.b (fun σ => passAt (takes_of rfl rfl rfl rfl) σ)
    (pa_cons (pe_and (pe_cmp (pc_le (pv 0) (pe_ct cB))) (pe_one (pe_cmp (pc_le (pv 1) (pe_ct cS))))) pa_nil))), ?_⟩)
  · obtain ⟨b, s, rfl, _⟩ := h
    rfl
  · obtain ⟨b, s, rfl, kF, kT⟩ := h
    refine ⟨_, rfl, b, 10000, rfl, rfl, _, rfl, ?_⟩
    refine ite2 (fun (h1 : decide (b ≤ 10000) = true) => ?_) (fun (h1 : ¬ decide (b ≤ 10000) = true) => ?_)
    · refine ⟨_, rfl, s, 10, rfl, rfl, _, rfl, fun (h2 : decide (s ≤ 10) = false) => ?_, fun (h2 : decide (s ≤ 10) = true) => ?_⟩
      · exact kF (by unfold okT; rw [h1, h2]; rfl)
      · exact kT (by unfold okT; rw [h1, h2]; rfl)
    · refine ⟨_, rfl, fun _ => kF ?_, fun z => Bool.noConfusion z⟩
      unfold okT
      rw [Bool.eq_false_iff.mpr h1]
      rfl
end
/-! ### price_of -/
def spPriceOf : Sp := fun vs H Q _ => ∃ b s h : Int, vs = [.int b, .int s, .int h] ∧ (-(2 ^ 64) < s ∧ s < 2 ^ 64) ∧ Q (.int (priceI b s h)) H
section
variable {P : Program} {w : World} {K : PySem.W.Frag} {mg : Str → Option Value} {base : Heap}
theorem scPriceOf : FnScope ["base", "step", "held"] ["base", "step", "held"] (defScope s_price_of) := ⟨rfl, rfl, rfl, by decide +kernel, rfl, by decide +kernel, by decide +kernel⟩
theorem ok_priceof {f : Addr} {fd : FuncData} (D : Df K mg "price_of" s_price_of ["base", "step", "held"] f fd) (cP : Ct mg "PLAIN_HELD" 1600) (mx : mg "max" = none) : FnOk P w K mg base CX0 1 f fd ["base", "step", "held"] spPriceOf := by
  refine D.F.ok scPriceOf (fun vs H Q E h => ?_) (fun cdv A outer s H vs Q E hr h => ⟨_, pss_one (ps_ret (pe_callB (call_max2 rfl) (by rfl) mx (by decide +kernel)
    (pa_cons pe_int (pa_cons (pe_op op_add (pv 0) (pe_op op_mul (pv 1) (pe_op op_sub (pv 2) (pe_ct cP)))) pa_nil)))), ?_⟩)
  · obtain ⟨b, s, h, rfl, _⟩ := h
    rfl
  · obtain ⟨b, s, h, rfl, hs, k⟩ := h
    exact ⟨_, rfl, _, rfl, _, rfl, _, _, rfl, rfl, _, _, rfl, rfl, .inl hs, _, _, rfl, rfl, _, _, rfl, k⟩
end
/-! ### price -/
def spMain (K : PySem.W.Frag) : Sp := fun vs H Q _ => ∃ b s h : Int, vs = [.int b, .int s, .int h] ∧ 0 ≤ b ∧ 0 ≤ s ∧ 0 ≤ h ∧
  ∀ (H' : Hp) (p : Addr), H' p = some (.lst ((priceAns b s h).map V.int)) → Q (.ref p) H'
section
variable {P : Program} {w : World} {K : PySem.W.Frag} {mg : Str → Option Value} {base : Heap} {C fI : Addr}
theorem scMain : FnScope ["base", "step", "held", "refusal"] ["base", "step", "held"] (defScope s_price) := ⟨rfl, rfl, rfl, by decide +kernel, rfl, by decide +kernel, by decide +kernel⟩
theorem ok_main {f fM fT fP : Addr} {fd fdM fdT fdP : FuncData} (D : Df K mg "price" s_price ["base", "step", "held"] f fd) (R : RefT K mg C fI)
    (DM : Df K mg "must" s_must ["so"] fM fdM) (GM : FnOk P w K mg base (L2.CX P w) 3 fM fdM ["so"] (spMust C))
    (DT : Df K mg "look_at_terms" s_look_at_terms ["base", "step"] fT fdT) (GT : FnOk P w K mg base (L2.CX P w) 4 fT fdT ["base", "step"] (spTerms C))
    (DP : Df K mg "price_of" s_price_of ["base", "step", "held"] fP fdP) (GP : FnOk P w K mg base CX0 1 fP fdP ["base", "step", "held"] spPriceOf)
    (cH : Ct mg "MOST_HELD" 2500) : FnOk P w K mg base CX0 5 f fd ["base", "step", "held"] (spMain K) := by
  refine D.F.ok scMain (fun vs H Q E h => ?_) (fun cdv A outer s H vs Q E hr h => ⟨_, pss_cons (ps_try_as (i := 3) rfl rfl scMain.nd rfl rfl ⟨rfl, by decide, Or.inl R.gC⟩ takes0
      (fun W pn xe tk _ => pss_cons (ps_expr (pe_callS GT hr rfl DT.g DT.F.kp DT.b (fun σ => passAt tk σ) (pa_cons (pv 0) (pa_cons (pv 1) pa_nil))))
        (pss_one (ps_expr (pe_callS GM (hr.mono (by decide)) rfl DM.g DM.F.kp DM.b (fun σ => passAt tk σ) (pa_cons (pe_cmp (pc_le (pv 2) (pe_ct cH))) pa_nil)))))
      (fun a oe cls d pn hz hf => pss_one (ps_ret (pe_lst (pa_cons (pe_xf R.xf R.noN hz hf (pv 3)) pa_nil)))))
    (pss_one (ps_ret (pe_lst (pa_cons (pe_call GP (hr.mono (by decide)) rfl DP.g DP.F.kp DP.b .nil pass0 (pa_cons (pv 0) (pa_cons (pv 1) (pa_cons (pv 2) pa_nil)))) pa_nil)))), ?_⟩)
  · obtain ⟨b, s, h, rfl, _⟩ := h
    rfl
  · obtain ⟨b, s, h, rfl, hb, hs, hh, k⟩ := h
    refine ⟨_, rfl, _, rfl, b, s, rfl, fun o d hd => ?_, fun o => ?_⟩
    · refine ⟨true, R.te, fun _ a _ => ?_, fun q => Bool.noConfusion q⟩
      refine ⟨_, rfl, rfl, rfl, d, _, _, rfl, upd_same, lkN, line_small (n := 1) (by decide), fun p hp => k _ p ?_⟩
      rw [upd_same, priceAns, if_neg (by rw [o]; intro z; exact Bool.noConfusion z.1)]
      rfl
    · refine ⟨_, rfl, h, 2500, rfl, rfl, _, rfl, fun o2 d hd => ?_, fun o2 => ?_⟩
      · refine ⟨true, R.te, fun _ a _ => ?_, fun q => Bool.noConfusion q⟩
        refine ⟨_, rfl, rfl, rfl, d, _, _, rfl, upd_same, lkN, line_small (n := 1) (by decide), fun p hp => k _ p ?_⟩
        rw [upd_same, priceAns, if_neg (by intro z; exact of_decide_eq_false o2 z.2)]
        rfl
      · have s10 := (okT_iff.mp o).2
        refine ⟨_, rfl, _, rfl, _, rfl, b, s, h, rfl, ⟨by omega, by omega⟩, line_small (n := 1) (by decide), fun p hp => k _ p ?_⟩
        rw [upd_same, priceAns, if_pos ⟨o, of_decide_eq_true o2⟩]
        rfl
end
theorem main_spec (K : PySem.W.Frag) (H : Hp) (xs : List V) (a : Codec.denoteAll PySem.Challenge.rw_growerspaid_s02_price.args) (hwi : Codec.withinAll PySem.Challenge.rw_growerspaid_s02_price.args a = true)
    (hx : DwAll K H xs (Codec.encAll PySem.Challenge.rw_growerspaid_s02_price.args a)) :
    spMain K xs H (fun v H' => Dw K H' v (PySem.Challenge.rw_growerspaid_s02_price.ret.enc (Codec.app PySem.Challenge.rw_growerspaid_s02_price.args PySem.Challenge.rw_growerspaid_s02_price.f a))) fun _ _ _ => False := by
  obtain ⟨b, s, h, u⟩ := a
  have q : (Codec.inInt 0 4294967295 b && (Codec.inInt 0 4294967295 s && (Codec.inInt 0 4294967295 h && true))) = true := hwi
  rw [Bool.and_eq_true, Bool.and_eq_true, Bool.and_eq_true, Codec.inInt_iff, Codec.inInt_iff, Codec.inInt_iff] at q
  cases hx with
  | cons h1 h2 =>
    cases h2 with
    | cons h2 h3 =>
      cases h3 with
      | cons h3 h4 =>
        cases h4
        cases h1
        cases h2
        cases h3
        refine ⟨b, s, h, rfl, q.1.1, q.2.1.1, q.2.2.1.1, fun H' p hp => ?_⟩
        show Dw K H' (.ref p) (.list ((PyKzb6.price b s h).map PySem.W.WData.int))
        rw [s02_is q.1.1 q.2.1.1 q.2.2.1.1]
        exact .lst (SqL.of hp) (dw_ints _)
/-! ### the end: what the top has written -/
theorem exm_self {K : PySem.W.Frag} {S : Addr} (h1 : PySem.W.subIn K (.ref S) (.type "BaseException") = some true) (h2 : PySem.W.isClsIn K S = true) (h3 : PySem.W.typeIn K (.ref S) = some (.type "type")) (h4 : PySem.W.subIn K (.ref S) (.ref S) = some true) :
    PySem.W.exmOne K (.ref S) (.ref S) = some true := by
  have e1 : (PySem.W.subIn K (.ref S) (.type "BaseException") == some true) = true := by rw [h1] <;> rfl
  have e2 : ((PySem.W.clsIn K S).isSome && PySem.W.typeIn K (.ref S) == some (.type "type")) = true := by
    have h2' : (PySem.W.clsIn K S).isSome = true := h2
    rw [h2', h3] <;> rfl
  show (if (PySem.W.subIn K (.ref S) (.type "BaseException") == some true) = true then (if ((PySem.W.clsIn K S).isSome && PySem.W.typeIn K (.ref S) == some (.type "type")) = true then PySem.W.subIn K (.ref S) (.ref S) else none) else none) = some true
  rw [if_pos e1, if_pos e2]
  exact h4
theorem all_mk {P : Program} {w : World} {K : PySem.W.Frag} {h : Heap} {mg : Str → Option Value} {fa C f0 : Addr}
    {f_must f_look_at_terms f_price_of f_price : Addr}
    {od0 an0 : Option Addr} {sl0 : Array (Option Value)} {oc0 kV0 dc0 pm0 cd0 ct0 : Value}
    {od_must an_must : Option Addr} {sl_must : Array (Option Value)} {oc_must kV_must dc_must pm_must cd_must ct_must : Value}
    {od_look_at_terms an_look_at_terms : Option Addr} {sl_look_at_terms : Array (Option Value)} {oc_look_at_terms kV_look_at_terms dc_look_at_terms pm_look_at_terms cd_look_at_terms ct_look_at_terms : Value}
    {od_price_of an_price_of : Option Addr} {sl_price_of : Array (Option Value)} {oc_price_of kV_price_of dc_price_of pm_price_of cd_price_of ct_price_of : Value}
    {od_price an_price : Option Addr} {sl_price : Array (Option Value)} {oc_price kV_price dc_price pm_price cd_price ct_price : Value}
    {nm q : Str} {N : Addr} {bs : List Value} {sn : List Str} {sub : List Value} {ab : Bool} {col : Option Bool} {dd : Option Addr} {m0 m1 m2 m3 m5 : Option Value}
    {t_OUT_OF_RANGE t_MOST_HELD t_MOST_BASE t_MOST_STEP t_PLAIN_HELD : Tok}
    (X : K.In h) (G : h.Ns mainGlobals mg) (hfa : mg "price" = some (.ref fa))
    (aC : PySem.W.nsIn K mainGlobals "Refused" = some (some (.ref C)))
    (xL : K.lookup C = some (excClassObj nm q C N bs [.type "ValueError", .type "Exception", .type "BaseException", .type "object"] true sn sub ab col dd m0 m1 m2 m3 m5 "ValueError.__new__"))
    (sa : PySem.W.findIn K (.ref C) "__setattr__" = some (some (.builtin "object.__setattr__")))
    (ga : PySem.W.findIn K (.ref C) "__getattribute__" = some (some (.builtin "BaseException.__getattribute__")))
    (gg : PySem.W.findIn K (.ref C) "__getattr__" = some none)
    (nb : PySem.W.findIn K (.ref C) "number" = some none)
    (a0 : PySem.W.findIn K (.ref C) "__init__" = some (some (.ref f0)))
    (t0 : PySem.W.typeIn K (.ref f0) = some (.type "function"))
    (l0 : K.lookup f0 = some ⟨oc0, od0, .func (PySem.W.fnOf "__init__" "Refused.__init__" (defArgs sInit) (defBody sInit) (defScope sInit) .none kV0 dc0 pm0 an0 cd0 ct0), sl0⟩)
    (c0 : PySem.W.codeIn K cd0 "Refused.__init__" = true)
    (k0 : PySem.W.keepIn K (.ref f0) = true)
    (kC : PySem.W.keepIn K (.ref C) = true)
    (eC : PySem.W.subIn K (.ref C) (.type "BaseException") = some true)
    (tC : PySem.W.typeIn K (.ref C) = some (.type "type"))
    (hC : PySem.W.hasDictIn K C = true)
    (iC : PySem.W.isClsIn K C = true)
    (sC : PySem.W.subIn K (.ref C) (.ref C) = some true)
    (a_must : PySem.W.nsIn K mainGlobals "must" = some (some (.ref f_must)))
    (l_must : K.lookup f_must = some ⟨oc_must, od_must, .func (PySem.W.fnOf "must" "must" (defArgs s_must) (defBody s_must) (defScope s_must) .none kV_must dc_must pm_must an_must cd_must ct_must), sl_must⟩)
    (c_must : PySem.W.codeIn K cd_must "must" = true)
    (k_must : PySem.W.keepIn K (.ref f_must) = true)
    (a_look_at_terms : PySem.W.nsIn K mainGlobals "look_at_terms" = some (some (.ref f_look_at_terms)))
    (l_look_at_terms : K.lookup f_look_at_terms = some ⟨oc_look_at_terms, od_look_at_terms, .func (PySem.W.fnOf "look_at_terms" "look_at_terms" (defArgs s_look_at_terms) (defBody s_look_at_terms) (defScope s_look_at_terms) .none kV_look_at_terms dc_look_at_terms pm_look_at_terms an_look_at_terms cd_look_at_terms ct_look_at_terms), sl_look_at_terms⟩)
    (c_look_at_terms : PySem.W.codeIn K cd_look_at_terms "look_at_terms" = true)
    (k_look_at_terms : PySem.W.keepIn K (.ref f_look_at_terms) = true)
    (a_price_of : PySem.W.nsIn K mainGlobals "price_of" = some (some (.ref f_price_of)))
    (l_price_of : K.lookup f_price_of = some ⟨oc_price_of, od_price_of, .func (PySem.W.fnOf "price_of" "price_of" (defArgs s_price_of) (defBody s_price_of) (defScope s_price_of) .none kV_price_of dc_price_of pm_price_of an_price_of cd_price_of ct_price_of), sl_price_of⟩)
    (c_price_of : PySem.W.codeIn K cd_price_of "price_of" = true)
    (k_price_of : PySem.W.keepIn K (.ref f_price_of) = true)
    (a_price : PySem.W.nsIn K mainGlobals "price" = some (some (.ref f_price)))
    (l_price : K.lookup f_price = some ⟨oc_price, od_price, .func (PySem.W.fnOf "price" "price" (defArgs s_price) (defBody s_price) (defScope s_price) .none kV_price dc_price pm_price an_price cd_price ct_price), sl_price⟩)
    (c_price : PySem.W.codeIn K cd_price "price" = true)
    (k_price : PySem.W.keepIn K (.ref f_price) = true)
    (n_OUT_OF_RANGE : PySem.W.nsIn K mainGlobals "OUT_OF_RANGE" = some (some (.int (-22) t_OUT_OF_RANGE)))
    (n_MOST_HELD : PySem.W.nsIn K mainGlobals "MOST_HELD" = some (some (.int (2500) t_MOST_HELD)))
    (n_MOST_BASE : PySem.W.nsIn K mainGlobals "MOST_BASE" = some (some (.int (10000) t_MOST_BASE)))
    (n_MOST_STEP : PySem.W.nsIn K mainGlobals "MOST_STEP" = some (some (.int (10) t_MOST_STEP)))
    (n_PLAIN_HELD : PySem.W.nsIn K mainGlobals "PLAIN_HELD" = some (some (.int (1600) t_PLAIN_HELD)))
    (z_max : PySem.W.nsIn K mainGlobals "max" = some none) :
    ∃ fd : FuncData, (∀ (s : Shared) (us : List Value), us.length = (["base", "step", "held"] : List Str).length → BindsTo s fd ⟨us, []⟩ ((["base", "step", "held"] : List Str).zip us)) ∧ ∀ base : Heap, K.In base → base.Ns mainGlobals mg → FnOk P w K mg base CX0 5 fa fd ["base", "step", "held"] (spMain K) := by
  have e : f_price = fa := by
    have z := (PySem.W.mg_of X G a_price).symm.trans hfa
    cases z
    rfl
  subst e
  have R : RefT K mg C f0 := ⟨PySem.W.mg_of X G aC, ⟨⟨nm, q, N, bs, _, sn, sub, ab, col, dd, m0, m1, m2, m3, m5, xL, by decide +kernel⟩, sa, eC, tC, kC⟩, ⟨ga, gg, eC, hC⟩, nb, a0, t0, exm_self eC iC tC sC, ⟨_, PySem.W.mg_of X G n_OUT_OF_RANGE⟩⟩
  have F0 := fun_mk (st := sInit) l0 c0 k0
  have b0 := F0.binds (ps := ["self", "number"]) fun _ _ _ _ _ _ us hl => match us, hl with | [_, _], _ => rfl
  have F_must := fun_mk (st := s_must) l_must c_must k_must
  have D_must : Df K mg "must" s_must ["so"] f_must _ := ⟨F_must, PySem.W.mg_of X G a_must, F_must.binds (ps := ["so"]) fun _ _ _ _ _ _ us hl => match us, hl with | [_], _ => rfl⟩
  have F_look_at_terms := fun_mk (st := s_look_at_terms) l_look_at_terms c_look_at_terms k_look_at_terms
  have D_look_at_terms : Df K mg "look_at_terms" s_look_at_terms ["base", "step"] f_look_at_terms _ := ⟨F_look_at_terms, PySem.W.mg_of X G a_look_at_terms, F_look_at_terms.binds (ps := ["base", "step"]) fun _ _ _ _ _ _ us hl => match us, hl with | [_, _], _ => rfl⟩
  have F_price_of := fun_mk (st := s_price_of) l_price_of c_price_of k_price_of
  have D_price_of : Df K mg "price_of" s_price_of ["base", "step", "held"] f_price_of _ := ⟨F_price_of, PySem.W.mg_of X G a_price_of, F_price_of.binds (ps := ["base", "step", "held"]) fun _ _ _ _ _ _ us hl => match us, hl with | [_, _, _], _ => rfl⟩
  have F_price := fun_mk (st := s_price) l_price c_price k_price
  have D_price : Df K mg "price" s_price ["base", "step", "held"] f_price _ := ⟨F_price, PySem.W.mg_of X G a_price, F_price.binds (ps := ["base", "step", "held"]) fun _ _ _ _ _ _ us hl => match us, hl with | [_, _, _], _ => rfl⟩
  have C_OUT_OF_RANGE : Ct mg "OUT_OF_RANGE" (-22) := ⟨_, PySem.W.mg_of X G n_OUT_OF_RANGE⟩
  have C_MOST_HELD : Ct mg "MOST_HELD" (2500) := ⟨_, PySem.W.mg_of X G n_MOST_HELD⟩
  have C_MOST_BASE : Ct mg "MOST_BASE" (10000) := ⟨_, PySem.W.mg_of X G n_MOST_BASE⟩
  have C_MOST_STEP : Ct mg "MOST_STEP" (10) := ⟨_, PySem.W.mg_of X G n_MOST_STEP⟩
  have C_PLAIN_HELD : Ct mg "PLAIN_HELD" (1600) := ⟨_, PySem.W.mg_of X G n_PLAIN_HELD⟩
  have Z_max : mg "max" = none := PySem.W.mg_none_of X G z_max
  refine ⟨PySem.W.fnOf "price" "price" (defArgs s_price) (defBody s_price) (defScope s_price) .none kV_price dc_price pm_price an_price cd_price ct_price, fun s us hu => match us, hu with | [_, _, _], _ => .of_eq rfl, fun base _ _ => ?_⟩
  have GM : FnOk P w K mg base (L2.CX P w) 3 f_must _ ["so"] (spMust C) := ok_must D_must R F0 b0
  exact ok_main D_price R D_must GM D_look_at_terms (ok_terms D_look_at_terms D_must GM C_MOST_BASE C_MOST_STEP) D_price_of (ok_priceof D_price_of C_PLAIN_HELD Z_max) C_MOST_HELD
end Gp
open PySem PySem.W PyProof.Rows
set_option maxRecDepth 100000 in
set_option maxHeartbeats 8000000 in
theorem PySem.Challenge.cw_growerspaid_s02_price_holds : PySem.Challenge.rw_growerspaid_s02_price.Holds := by
  w_on; k_headS; (case hw => exact ⟨[.int 0, .int 0, .int 0], by decide +kernel, by decide +kernel⟩)
  k_fillS
  refine L2.walk_specK (r := PySem.Challenge.rw_growerspaid_s02_price) (k := 5) (CX := L2.CX0) (ps := ["base", "step", "held"]) (sp := Gp.spMain) (by decide +kernel) rfl rfl ⟨rfl, by decide, by decide⟩ (fun w h Y => PySem.W.kIn_of Y) ?F ?S (fun _ _ _ _ z => z)
  case F =>
    intro w mg fa h Y KX G hmg
    refine' Gp.all_mk KX G hmg ?aC ?xL ?sa ?ga ?gg ?nb ?a0 ?t0 ?l0 ?c0 ?k0 ?kC ?eC ?tC ?hC ?iC ?sC ?a_must ?l_must ?c_must ?k_must ?a_look_at_terms ?l_look_at_terms ?c_look_at_terms ?k_look_at_terms ?a_price_of ?l_price_of ?c_price_of ?k_price_of ?a_price ?l_price ?c_price ?k_price ?n_OUT_OF_RANGE ?n_MOST_HELD ?n_MOST_BASE ?n_MOST_STEP ?n_PLAIN_HELD ?z_max
    (case aC => k_is)
    (case xL => k_is)
    (case sa => k_is)
    (case ga => k_is)
    (case gg => k_is)
    (case nb => k_is)
    (case a0 => k_is)
    (case t0 => k_is)
    (case l0 => k_is)
    (case c0 => k_is)
    (case k0 => k_is)
    (case kC => k_is)
    (case eC => k_is)
    (case tC => k_is)
    (case hC => k_is)
    (case iC => k_is)
    (case sC => first | rfl | k_is)
    (case a_must => k_is)
    (case l_must => k_is)
    (case c_must => k_is)
    (case k_must => k_is)
    (case a_look_at_terms => k_is)
    (case l_look_at_terms => k_is)
    (case c_look_at_terms => k_is)
    (case k_look_at_terms => k_is)
    (case a_price_of => k_is)
    (case l_price_of => k_is)
    (case c_price_of => k_is)
    (case k_price_of => k_is)
    (case a_price => k_is)
    (case l_price => k_is)
    (case c_price => k_is)
    (case k_price => k_is)
    (case n_OUT_OF_RANGE => k_is)
    (case n_MOST_HELD => k_is)
    (case n_MOST_BASE => k_is)
    (case n_MOST_STEP => k_is)
    (case n_PLAIN_HELD => k_is)
    (case z_max => k_is)
  case S =>
    intro K H xs a hO hwi hask hx
    exact Gp.main_spec K H xs a hwi hx
#print axioms PySem.Challenge.cw_growerspaid_s02_price_holds
