import PyProof.Rows.All
import Wide.All
import OpenK.AllK
import Wide.FinOn
import PyProof.EqAt
import PyProof.EqKinds
import PyProof.TupleCall
import Open.SpecLaws
import KE.OsGo
import PySem.Challenge.RW_growerspaid_s03_pay
import HandS.ForSpec
import HandS.ExcInit
import HandS.ExcField
import HandS.Comp
import HandS.Dict
import HandS.Iter
import HandS.Walk
set_option Elab.async false
set_option linter.all false
set_option maxRecDepth 100000
set_option maxHeartbeats 4000000
namespace Gp
def okL (x : Int × Int × Int) : Bool := decide (x.1 ≤ 50000) && (decide (x.2.1 ≤ 1000) && decide (x.2.2 ≤ 2500))
def cleanI (g e : Int) : Int := g - g * e / 1000
def sugarI (c h : Int) : Int := c * h / 10000
def priceI (b s h : Int) : Int := if b + s * (h - 1600) > 0 then b + s * (h - 1600) else 0
def nat3 (x : Int × Int × Int) : Kzb6.Load := ⟨x.1.toNat, x.2.1.toNat, x.2.2.toNat⟩
def pos3 (x : Int × Int × Int) : Prop := 0 ≤ x.1 ∧ 0 ≤ x.2.1 ∧ 0 ≤ x.2.2
theorem okL_iff {x : Int × Int × Int} : okL x = true ↔ x.1 ≤ 50000 ∧ x.2.1 ≤ 1000 ∧ x.2.2 ≤ 2500 := by
  unfold okL
  simp only [Bool.and_eq_true, decide_eq_true_eq]
theorem okLoad_is {x : Int × Int × Int} : Kzb6.okLoad (nat3 x) = okL x := by
  apply Bool.eq_iff_iff.mpr
  rw [okL_iff]
  unfold Kzb6.okLoad nat3
  simp only [Bool.and_eq_true, decide_eq_true_eq]
  omega
theorem mulc (a b : Nat) : ((a : Int) * (b : Int)) = ((a * b : Nat) : Int) := by rw [Int.natCast_mul]
theorem clean_le (g e : Nat) (h : e ≤ 1000) : g * e / 1000 ≤ g := by
  have h1 : g * e ≤ g * 1000 := Nat.mul_le_mul_left g h
  omega
theorem clean_is {x : Int × Int × Int} (p : pos3 x) (o : okL x = true) : ((Kzb6.clean (nat3 x) : Nat) : Int) = cleanI x.1 x.2.1 := by
  obtain ⟨g, e, h⟩ := x
  obtain ⟨p1, p2, p3⟩ := p
  obtain ⟨_, o2, _⟩ := okL_iff.mp o
  obtain ⟨g, rfl⟩ := Int.eq_ofNat_of_zero_le p1
  obtain ⟨e, rfl⟩ := Int.eq_ofNat_of_zero_le p2
  have o2 : e ≤ 1000 := by simp only at o2; omega
  have q := clean_le g e o2
  show ((g - g * e / 1000 : Nat) : Int) = (g : Int) - (g : Int) * (e : Int) / 1000
  rw [mulc]
  omega
theorem sugar_is {x : Int × Int × Int} (p : pos3 x) (o : okL x = true) : ((Kzb6.sugar (nat3 x) : Nat) : Int) = sugarI (cleanI x.1 x.2.1) x.2.2 := by
  have c := clean_is p o
  unfold Kzb6.sugar sugarI
  rw [← c]
  obtain ⟨g, e, h⟩ := x
  obtain ⟨_, _, p3⟩ := p
  obtain ⟨h, rfl⟩ := Int.eq_ofNat_of_zero_le p3
  show ((Kzb6.clean _ * h / 10000 : Nat) : Int) = (Kzb6.clean _ : Int) * (h : Int) / 10000
  rw [mulc]
  omega
theorem cleanI_bd {x : Int × Int × Int} (p : pos3 x) (o : okL x = true) : 0 ≤ cleanI x.1 x.2.1 ∧ cleanI x.1 x.2.1 ≤ 50000 := by
  have c := clean_is p o
  have k : Kzb6.clean (nat3 x) ≤ x.1.toNat := Nat.sub_le _ _
  obtain ⟨o1, _, _⟩ := okL_iff.mp o
  have p1 := p.1
  omega
/-- s01 -/
def cleanAns (g e h : Int) : List Int := if okL (g, e, h) = true then [cleanI g e, sugarI (cleanI g e) h] else [-22]
theorem s01_is {g e h : Int} (p : pos3 (g, e, h)) : PyKzb6.clean g e h = cleanAns g e h := by
  unfold cleanAns PyKzb6.clean Kzb6Neutral.f
  show (Kzb6.answer (.clean g.toNat e.toNat h.toNat)).value :: Kzb6Neutral.ints (Kzb6.answer (.clean g.toNat e.toNat h.toNat)).nums = _
  have k : Kzb6.okLoad ⟨g.toNat, e.toNat, h.toNat⟩ = okL (g, e, h) := okLoad_is (x := (g, e, h))
  unfold Kzb6.answer
  simp only [k]
  by_cases o : okL (g, e, h) = true
  · rw [if_pos o, if_neg (by rw [o]; decide)]
    show ((Kzb6.clean (nat3 (g, e, h)) : Nat) : Int) :: [((Kzb6.sugar (nat3 (g, e, h)) : Nat) : Int)] = _
    rw [clean_is p o, sugar_is p o]
  · rw [if_neg o, if_pos (by simpa using o)]
    rfl
/-- s02 -/
def okT (b s : Int) : Bool := decide (b ≤ 10000) && decide (s ≤ 10)
theorem okT_iff {b s : Int} : okT b s = true ↔ b ≤ 10000 ∧ s ≤ 10 := by
  unfold okT
  simp only [Bool.and_eq_true, decide_eq_true_eq]
theorem okTerms_is {b s : Int} : Kzb6.okTerms ⟨b.toNat, s.toNat⟩ = okT b s := by
  apply Bool.eq_iff_iff.mpr
  rw [okT_iff]
  unfold Kzb6.okTerms
  simp only [Bool.and_eq_true, decide_eq_true_eq]
  omega
theorem price_is {b s h : Int} (hb : 0 ≤ b) (hs : 0 ≤ s) (hh : 0 ≤ h) : ((Kzb6.price ⟨b.toNat, s.toNat⟩ h.toNat : Nat) : Int) = priceI b s h := by
  obtain ⟨b, rfl⟩ := Int.eq_ofNat_of_zero_le hb
  obtain ⟨s, rfl⟩ := Int.eq_ofNat_of_zero_le hs
  obtain ⟨h, rfl⟩ := Int.eq_ofNat_of_zero_le hh
  show (((if 1600 ≤ h then b + s * (h - 1600) else b - s * (1600 - h)) : Nat) : Int) = (if (b : Int) + s * ((h : Int) - 1600) > 0 then (b : Int) + s * ((h : Int) - 1600) else 0)
  by_cases c : 1600 ≤ h
  · rw [if_pos c]
    obtain ⟨d, rfl⟩ := Nat.exists_eq_add_of_le c
    have e1 : ((1600 + d : Nat) : Int) - 1600 = (d : Int) := by omega
    have e2 : 1600 + d - 1600 = d := by omega
    rw [e1, e2, mulc]
    split <;> omega
  · rw [if_neg c]
    obtain ⟨d, e⟩ := Nat.exists_eq_add_of_le (Nat.le_of_not_le c)
    have e1 : (h : Int) - 1600 = -(d : Int) := by omega
    have e2 : 1600 - h = d := by omega
    rw [e1, e2, Int.mul_neg, mulc]
    split <;> omega
def priceAns (b s h : Int) : List Int := if okT b s = true ∧ h ≤ 2500 then [priceI b s h] else [-22]
theorem s02_is {b s h : Int} (hb : 0 ≤ b) (hs : 0 ≤ s) (hh : 0 ≤ h) : PyKzb6.price b s h = priceAns b s h := by
  unfold priceAns PyKzb6.price Kzb6Neutral.f
  show (Kzb6.answer (.price b.toNat s.toNat h.toNat)).value :: Kzb6Neutral.ints (Kzb6.answer (.price b.toNat s.toNat h.toNat)).nums = _
  unfold Kzb6.answer
  simp only [okTerms_is]
  by_cases o : okT b s = true ∧ h ≤ 2500
  · rw [if_pos o, if_neg (by rw [o.1]; intro z; rcases z with z | z; exact absurd z (by decide); omega)]
    show ((Kzb6.price ⟨b.toNat, s.toNat⟩ h.toNat : Nat) : Int) :: [] = _
    rw [price_is hb hs hh]
  · rw [if_neg o, if_pos]
    · rfl
    · by_cases o1 : okT b s = true
      · right
        have : ¬ h ≤ 2500 := fun z => o ⟨o1, z⟩
        omega
      · left
        simpa using o1
end Gp
namespace Gp
abbrev L3 := Int × Int × Int
def loadsI : List Int → List L3
  | a :: b :: c :: l => (a, b, c) :: loadsI l
  | _ => []
def goodI (ns : List Int) : Bool := (decide (ns.length % 3 = 0) && decide (ns.length ≤ 60)) && (loadsI ns).all okL
theorem loads_len : ∀ (n : Nat) (ns : List Int), ns.length = 3 * n → (loadsI ns).length = n
  | 0, ns, h => by
    have e : ns = [] := List.length_eq_zero_iff.mp (by omega)
    subst e
    rfl
  | n + 1, ns, h => by
    match ns, h with
    | a :: b :: c :: l, h =>
      have ih := loads_len n l (by simp only [List.length_cons] at h; omega)
      show (loadsI l).length + 1 = n + 1
      rw [ih]
    | [], h => simp at h
    | [_], h => simp at h; omega
    | [_, _], h => simp at h; omega
theorem loads_at : ∀ (n i : Nat) (ns : List Int), ns.length = 3 * n → i < n → ∃ a b c, (loadsI ns)[i]? = some (a, b, c) ∧ (ns.drop (3 * i)).take 3 = [a, b, c]
  | 0, i, ns, h, hi => absurd hi (Nat.not_lt_zero _)
  | n + 1, i, ns, h, hi => by
    match ns, h with
    | a :: b :: c :: l, h =>
      cases i with
      | zero => exact ⟨a, b, c, rfl, by simp⟩
      | succ i =>
        obtain ⟨x, y, z, h1, h2⟩ := loads_at n i l (by simp only [List.length_cons] at h; omega) (by omega)
        refine ⟨x, y, z, h1, ?_⟩
        rw [show 3 * (i + 1) = 3 * i + 3 from by omega]
        show (((l.drop (3 * i))).take 3) = _
        exact h2
    | [], h => simp at h
    | [_], h => simp at h; omega
    | [_, _], h => simp at h; omega
theorem loads_nat : ∀ (ns : List Int), Kzb6.loads (Kzb6Neutral.natsOf ns) = (loadsI ns).map nat3
  | [] => rfl
  | [_] => rfl
  | [_, _] => rfl
  | a :: b :: c :: l => by
    show (⟨a.toNat, b.toNat, c.toNat⟩ : Kzb6.Load) :: Kzb6.loads (Kzb6Neutral.natsOf l) = nat3 (a, b, c) :: (loadsI l).map nat3
    rw [loads_nat l]
    rfl
theorem loads_pos : ∀ (ns : List Int), (∀ x ∈ ns, 0 ≤ x) → ∀ y ∈ loadsI ns, pos3 y
  | [], _, y, hy => absurd hy (by simp [loadsI])
  | [_], _, y, hy => absurd hy (by simp [loadsI])
  | [_, _], _, y, hy => absurd hy (by simp [loadsI])
  | a :: b :: c :: l, h, y, hy => by
    rcases List.mem_cons.mp (show y ∈ (a, b, c) :: loadsI l from hy) with e | m
    · subst e
      exact ⟨h a (by simp), h b (by simp), h c (by simp)⟩
    · exact loads_pos l (fun x hx => h x (by simp [hx])) y m
theorem all_nat3 (l : List L3) : (l.map nat3).all Kzb6.okLoad = l.all okL := by
  rw [List.all_map]
  congr 1
  funext x
  exact okLoad_is
theorem good_is (ns : List Int) : Kzb6.good (Kzb6Neutral.natsOf ns) = goodI ns := by
  unfold Kzb6.good Kzb6.okLoads goodI Kzb6.most
  rw [loads_nat, all_nat3, List.length_map]
  have e : (Kzb6Neutral.natsOf ns).length = ns.length := by unfold Kzb6Neutral.natsOf; rw [List.length_map]
  rw [e]
  by_cases h : ns.length % 3 = 0
  · obtain ⟨n, hn⟩ : ∃ n, ns.length = 3 * n := ⟨ns.length / 3, by omega⟩
    rw [loads_len n ns hn, decide_eq_true h, Bool.true_and, Bool.true_and]
    congr 1
    apply decide_eq_decide.mpr
    omega
  · rw [decide_eq_false h, Bool.false_and, Bool.false_and, Bool.false_and]
/-! what is paid -/
def wI (left c : Int) : Int := if left < c then left else c
def paidI (w a p : Int) : Int := (w * p + a * p / 2) / 1000
def oneI (b s left : Int) (x : L3) : Int := paidI (wI left (cleanI x.1 x.2.1)) (cleanI x.1 x.2.1 - wI left (cleanI x.1 x.2.1)) (priceI b s x.2.2)
def stepI (left : Int) (x : L3) : Int := left - wI left (cleanI x.1 x.2.1)
def paysI (b s : Int) : Int → List L3 → List Int
  | _, [] => []
  | left, x :: l => oneI b s left x :: paysI b s (stepI left x) l
def leftI (left : Int) (l : List L3) : Int := l.foldl stepI left
theorem pays_snoc (b s : Int) : ∀ (l : List L3) (left : Int) (x : L3), paysI b s left (l ++ [x]) = paysI b s left l ++ [oneI b s (leftI left l) x]
  | [], left, x => rfl
  | y :: l, left, x => by
    show oneI b s left y :: paysI b s (stepI left y) (l ++ [x]) = oneI b s left y :: (paysI b s (stepI left y) l ++ [oneI b s (leftI (stepI left y) l) x])
    rw [pays_snoc b s l]
theorem left_snoc (l : List L3) (left : Int) (x : L3) : leftI left (l ++ [x]) = stepI (leftI left l) x := by
  unfold leftI
  rw [List.foldl_append]
  rfl
theorem pays_len (b s : Int) : ∀ (l : List L3) (left : Int), (paysI b s left l).length = l.length
  | [], _ => rfl
  | x :: l, left => by
    show (paysI b s (stepI left x) l).length + 1 = l.length + 1
    rw [pays_len b s l]
theorem step_bd {left : Int} {x : L3} (h : 0 ≤ left) : 0 ≤ stepI left x := by
  unfold stepI wI
  split <;> omega
theorem left_bd : ∀ (l : List L3) (left : Int), 0 ≤ left → 0 ≤ leftI left l
  | [], left, h => h
  | x :: l, left, h => left_bd l (stepI left x) (step_bd h)
theorem wI_bd {left c : Int} (h : 0 ≤ left) (hc : 0 ≤ c) (hc' : c ≤ 50000) : 0 ≤ wI left c ∧ wI left c ≤ 50000 ∧ 0 ≤ c - wI left c ∧ c - wI left c ≤ 50000 := by
  unfold wI
  split <;> omega
theorem payOne_is {b s left : Int} {x : L3} (hb : 0 ≤ b) (hs : 0 ≤ s) (hl : 0 ≤ left) (p : pos3 x) (o : okL x = true) :
    ((Kzb6.payOne ⟨b.toNat, s.toNat⟩ left.toNat (nat3 x) : Nat) : Int) = oneI b s left x := by
  have c := clean_is p o
  have pr := price_is hb hs p.2.2
  unfold oneI paidI
  rw [← c, ← pr]
  unfold Kzb6.payOne
  show (((min left.toNat (Kzb6.clean (nat3 x)) * Kzb6.price ⟨b.toNat, s.toNat⟩ x.2.2.toNat + (Kzb6.clean (nat3 x) - min left.toNat (Kzb6.clean (nat3 x))) * Kzb6.price ⟨b.toNat, s.toNat⟩ x.2.2.toNat / 2) / 1000 : Nat) : Int) = _
  generalize Kzb6.clean (nat3 x) = C
  generalize Kzb6.price ⟨b.toNat, s.toNat⟩ x.2.2.toNat = P
  obtain ⟨left, rfl⟩ := Int.eq_ofNat_of_zero_le hl
  have e : wI (left : Int) (C : Int) = ((min left C : Nat) : Int) := by
    unfold wI
    split <;> omega
  have e2 : (C : Int) - ((min left C : Nat) : Int) = ((C - min left C : Nat) : Int) := by omega
  rw [e, e2, mulc, mulc, Int.toNat_natCast]
  omega
theorem step_is {left : Int} {x : L3} (hl : 0 ≤ left) (p : pos3 x) (o : okL x = true) : (left.toNat - Kzb6.clean (nat3 x)) = (stepI left x).toNat := by
  have c := clean_is p o
  unfold stepI wI
  rw [← c]
  split <;> omega
theorem payOn_is {b s : Int} (hb : 0 ≤ b) (hs : 0 ≤ s) : ∀ (l : List L3) (left : Int), 0 ≤ left → (∀ x ∈ l, pos3 x) → (∀ x ∈ l, okL x = true) →
    Kzb6Neutral.ints (Kzb6.payOn ⟨b.toNat, s.toNat⟩ left.toNat (l.map nat3)) = paysI b s left l
  | [], _, _, _, _ => rfl
  | x :: l, left, h, p, o => by
    show ((Kzb6.payOne ⟨b.toNat, s.toNat⟩ left.toNat (nat3 x) : Nat) : Int) :: Kzb6Neutral.ints (Kzb6.payOn ⟨b.toNat, s.toNat⟩ (left.toNat - Kzb6.clean (nat3 x)) (l.map nat3)) = oneI b s left x :: paysI b s (stepI left x) l
    have px := p x (by simp)
    have ox := o x (by simp)
    rw [payOne_is hb hs h px ox, step_is h px ox, payOn_is hb hs l (stepI left x) (step_bd h) (fun y hy => p y (by simp [hy])) (fun y hy => o y (by simp [hy]))]
theorem foldl_add : ∀ (l : List Nat) (a : Nat), l.foldl (· + ·) a = a + l.sum
  | [], a => by simp
  | x :: l, a => by
    rw [List.foldl_cons, foldl_add l, List.sum_cons]
    omega
theorem sum_is (l : List Nat) : Kzb1.sum l = l.sum := by
  unfold Kzb1.sum
  rw [foldl_add]
  omega
theorem sum_ints : ∀ (l : List Nat), ((l.sum : Nat) : Int) = (Kzb6Neutral.ints l).sum
  | [] => rfl
  | x :: l => by
    show ((x :: l).sum : Int) = ((x : Int) :: Kzb6Neutral.ints l).sum
    rw [List.sum_cons, List.sum_cons, ← sum_ints l]
    omega
def payAns (b s q : Int) (ns : List Int) : List Int :=
  if goodI ns = true ∧ okT b s = true ∧ q ≤ 1000000 then (paysI b s q (loadsI ns)).sum :: paysI b s q (loadsI ns) else [-22]
theorem good_ok {ns : List Int} (g : goodI ns = true) : ∀ x ∈ loadsI ns, okL x = true := by
  unfold goodI at g
  rw [Bool.and_eq_true] at g
  exact List.all_eq_true.mp g.2
theorem s03_is {b s q : Int} {ns : List Int} (hb : 0 ≤ b) (hs : 0 ≤ s) (hq : 0 ≤ q) (hn : ∀ x ∈ ns, 0 ≤ x) : PyKzb6.pay b s q ns = payAns b s q ns := by
  unfold payAns PyKzb6.pay Kzb6Neutral.f
  show (Kzb6.answer (.pay b.toNat s.toNat q.toNat (Kzb6Neutral.natsOf ns))).value :: Kzb6Neutral.ints (Kzb6.answer (.pay b.toNat s.toNat q.toNat (Kzb6Neutral.natsOf ns))).nums = _
  unfold Kzb6.answer
  simp only [okTerms_is, good_is]
  by_cases o : goodI ns = true ∧ okT b s = true ∧ q ≤ 1000000
  · have n : ¬ (okT b s = false ∨ 1000000 < q.toNat ∨ goodI ns = false) := by
      rw [o.1, o.2.1]
      have := o.2.2
      intro z
      rcases z with z | z | z
      · exact absurd z (by decide)
      · omega
      · exact absurd z (by decide)
    rw [if_pos o, if_neg n]
    unfold Kzb6.pay
    have e := payOn_is hb hs (loadsI ns) q hq (loads_pos ns hn) (good_ok o.1)
    show ((Kzb1.sum (Kzb6.payOn ⟨b.toNat, s.toNat⟩ q.toNat (Kzb6.loads (Kzb6Neutral.natsOf ns))) : Nat) : Int) :: Kzb6Neutral.ints (Kzb6.payOn ⟨b.toNat, s.toNat⟩ q.toNat (Kzb6.loads (Kzb6Neutral.natsOf ns))) = _
    rw [sum_is, sum_ints, loads_nat, e]
  · rw [if_neg o, if_pos]
    · rfl
    · by_cases o1 : okT b s = true
      · by_cases o2 : q ≤ 1000000
        · right; right
          have : ¬ goodI ns = true := fun z => o ⟨z, o1, o2⟩
          simpa using this
        · right; left
          omega
      · left
        simpa using o1
/-! the mean -/
def cleansI (l : List L3) : List Int := l.map fun x => cleanI x.1 x.2.1
def sugarsI (l : List L3) : List Int := l.map fun x => sugarI (cleanI x.1 x.2.1) x.2.2
def meanI (l : List L3) : List Int :=
  if (cleansI l).sum = 0 then [0, (cleansI l).sum, (sugarsI l).sum] else [(sugarsI l).sum * 10000 / (cleansI l).sum, (cleansI l).sum, (sugarsI l).sum]
theorem cleans_is : ∀ (l : List L3), (∀ x ∈ l, pos3 x) → (∀ x ∈ l, okL x = true) → Kzb6Neutral.ints ((l.map nat3).map Kzb6.clean) = cleansI l
  | [], _, _ => rfl
  | x :: l, p, o => by
    show ((Kzb6.clean (nat3 x) : Nat) : Int) :: Kzb6Neutral.ints ((l.map nat3).map Kzb6.clean) = cleanI x.1 x.2.1 :: cleansI l
    rw [clean_is (p x (by simp)) (o x (by simp)), cleans_is l (fun y hy => p y (by simp [hy])) (fun y hy => o y (by simp [hy]))]
theorem sugars_is : ∀ (l : List L3), (∀ x ∈ l, pos3 x) → (∀ x ∈ l, okL x = true) → Kzb6Neutral.ints ((l.map nat3).map Kzb6.sugar) = sugarsI l
  | [], _, _ => rfl
  | x :: l, p, o => by
    show ((Kzb6.sugar (nat3 x) : Nat) : Int) :: Kzb6Neutral.ints ((l.map nat3).map Kzb6.sugar) = sugarI (cleanI x.1 x.2.1) x.2.2 :: sugarsI l
    rw [sugar_is (p x (by simp)) (o x (by simp)), sugars_is l (fun y hy => p y (by simp [hy])) (fun y hy => o y (by simp [hy]))]
def meanAns (ns : List Int) : List Int := if goodI ns = true then meanI (loadsI ns) else [-22]
theorem s04_is {ns : List Int} (hn : ∀ x ∈ ns, 0 ≤ x) : PyKzb6.mean ns = meanAns ns := by
  unfold meanAns PyKzb6.mean Kzb6Neutral.f
  show (Kzb6.answer (.mean (Kzb6Neutral.natsOf ns))).value :: Kzb6Neutral.ints (Kzb6.answer (.mean (Kzb6Neutral.natsOf ns))).nums = _
  unfold Kzb6.answer
  simp only [good_is]
  by_cases o : goodI ns = true
  · rw [if_pos o, if_neg (by rw [o]; decide)]
    have e1 := cleans_is (loadsI ns) (loads_pos ns hn) (good_ok o)
    have e2 := sugars_is (loadsI ns) (loads_pos ns hn) (good_ok o)
    unfold meanI Kzb6.mean
    simp only [loads_nat, sum_is]
    rw [← e1, ← e2, ← sum_ints, ← sum_ints]
    generalize (((loadsI ns).map nat3).map Kzb6.clean).sum = C
    generalize (((loadsI ns).map nat3).map Kzb6.sugar).sum = S
    by_cases z : C = 0
    · rw [if_pos z, if_pos (by omega)]
      rfl
    · rw [if_neg z, if_neg (by omega)]
      show ((S * 10000 / C : Nat) : Int) :: [((C : Nat) : Int), ((S : Nat) : Int)] = _
      rw [Int.natCast_ediv, Int.natCast_mul]
      rfl
  · rw [if_neg o, if_pos (by simpa using o)]
    rfl
/-- bounds for the mean: no more than twenty loads -/
theorem good_len {ns : List Int} (g : goodI ns = true) : ∃ n, ns.length = 3 * n ∧ n ≤ 20 ∧ (loadsI ns).length = n := by
  unfold goodI at g
  rw [Bool.and_eq_true, Bool.and_eq_true, decide_eq_true_eq, decide_eq_true_eq] at g
  refine ⟨ns.length / 3, by omega, by omega, loads_len _ _ (by omega)⟩
theorem sum_bd (M : Int) : ∀ (l : List Int), (∀ x ∈ l, 0 ≤ x ∧ x ≤ M) → 0 ≤ l.sum ∧ l.sum ≤ M * l.length
  | [], _ => by simp
  | x :: l, h => by
    have ih := sum_bd M l fun y hy => h y (by simp [hy])
    have hx := h x (by simp)
    rw [List.sum_cons, List.length_cons]
    have e : M * ((l.length + 1 : Nat) : Int) = M * l.length + M := by
      rw [Int.natCast_add, Int.mul_add]
      simp
    rw [e]
    omega
theorem sugarI_bd {c h : Int} (hc : 0 ≤ c) (hc' : c ≤ 50000) (hh : 0 ≤ h) (hh' : h ≤ 2500) : 0 ≤ sugarI c h ∧ sugarI c h ≤ 12500 := by
  unfold sugarI
  have h1 : c * h ≤ 50000 * 2500 := Int.mul_le_mul hc' hh' hh (by decide)
  have h0 : 0 ≤ c * h := Int.mul_nonneg hc hh
  omega
end Gp
namespace Gp
open PySem PySem.Spec PyProof.Rows L2
open PySem.W (Codec)
def topS (i : Nat) : Stmt := PySem.Challenge.pw_growerspaid_s03_pay.main.body.getD i (.Pass ⟨0, 0, 0, 0⟩)
abbrev sInit : Stmt := inClass (topS 10) 0
abbrev s_must : Stmt := topS 11
abbrev s_is_load : Stmt := topS 12
abbrev s_look_at_terms : Stmt := topS 13
abbrev s_loads_in : Stmt := topS 14
abbrev s_earth_of : Stmt := topS 17
abbrev s_clean_of : Stmt := topS 18
abbrev s_price_of : Stmt := topS 22
abbrev s_paid_of : Stmt := topS 23
abbrev s_pays_of : Stmt := topS 24
abbrev s_pay : Stmt := topS 26
/-! ### defs, constants; the refusal -/
/-- a def of the top: its text, its name, its binding -/
structure Df (K : PySem.W.Frag) (mg : Str → Option Value) (x : Str) (st : Stmt) (ps : List Str) (f : Addr) (fd : FuncData) : Prop where
  F : Fun K x x st f fd
  g : mg x = some (.ref f)
  b : Binds K fd ps []
/-- a constant of the top -/
def Ct (mg : Str → Option Value) (x : Str) (v : Int) : Prop := ∃ t, mg x = some (.int v t)
theorem pe_ct {X : Cx} {x : Str} {v : Int} {pos : Pos} (c : Ct X.mg x v) (hg : Gl X x := by rfl) (hd : (x == ("__debug__" : Str)) = false := by decide) : PE X (.Name x pos) (tC (.int v)) := by
  obtain ⟨t, h⟩ := c
  exact pe_glob hg h ⟨_, rfl⟩ hd
structure RefT (K : PySem.W.Frag) (mg : Str → Option Value) (C fI : Addr) : Prop where
  gC : mg "Refused" = some (.ref C)
  oex : OexC K C
  xf : XfC K C
  noN : PySem.W.findIn K (.ref C) "number" = some none
  iC : PySem.W.findIn K (.ref C) "__init__" = some (some (.ref fI))
  tI : PySem.W.typeIn K (.ref fI) = some (.type "function")
  te : PySem.W.exmOne K (.ref C) (.ref C) = some true
  mOut : Ct mg "OUT_OF_RANGE" (-22)
/-- the own dict of a refusal -/
abbrev xN : HO := .xd [(("number" : Str), .int (-22))]
theorem lkN {v : V} : List.lookup ("number" : Str) [(("number" : Str), v)] = some v := by simp [List.lookup]
theorem raised_heap {H : Hp} {a d C : Addr} {fs : List (Str × V)} (ha : H a = none) (ne : d ≠ a) :
    upd (del (upd (upd (upd H a (exo a C none)) d (exd d fs)) a (exo a C (some d))) a) d (.xd fs) = upd H d (.xd fs) := by
  funext b
  by_cases h : b = d
  · rw [h, upd_same, upd_same]
  · rw [upd_ne h, upd_ne h]
    by_cases h2 : b = a
    · rw [h2, del_same, ha]
    · rw [del_ne h2, upd_ne h2, upd_ne h, upd_ne h2]
theorem same_new {H : Hp} {d : Addr} {o : HO} (h : H d = none) : Same H (upd H d o) := fun b u e => by
  rw [upd_ne (ne_of_none e h)]
  exact e
theorem line_small {n : Nat} (h : n ≤ 1000) : n ≤ sizeLine := Nat.le_of_lt (small1000 h)
def spInit (C : Addr) : Sp := fun vs H Q _ => ∃ (a : Addr) (v : V), vs = [.ref a, v] ∧ H a = some (exo a C none) ∧
  ∀ dx, H dx = none → dx ≠ a → Q .non (upd (upd H dx (exd dx [(("number" : Str), v)])) a (exo a C (some dx)))
section
variable {P : Program} {w : World} {K : PySem.W.Frag} {mg : Str → Option Value} {base : Heap} {C fI : Addr}
theorem scInit : FnScope ["self", "number"] ["self", "number"] (defScope sInit) := ⟨rfl, rfl, rfl, by decide +kernel, rfl, by decide +kernel, by decide +kernel⟩
theorem ok_init {f : Addr} {fd : FuncData} (F : Fun K "__init__" "Refused.__init__" sInit f fd) (R : RefT K mg C fI) : FnOk P w K mg base CX0 1 f fd ["self", "number"] (spInit C) := by
  refine F.ok scInit (fun vs H Q E h => ?_) (fun cdv A outer s H vs Q E hr h => ⟨_, pss_one (ps_ost (pv 0) (pv 1)), ?_⟩)
  · obtain ⟨a, v, rfl, _⟩ := h
    rfl
  · obtain ⟨a, v, rfl, ha, k⟩ := h
    exact ⟨_, rfl, _, rfl, a, C, rfl, R.oex, R.noN, .inl ⟨ha, fun dx n ne => k dx n ne⟩⟩
end
/-! ### must -/
def spMust (C : Addr) : Sp := fun vs H Q E => ∃ b : Bool, vs = [.bl b] ∧ (b = false → ∀ d : Addr, H d = none → E (.ref C) (some d) (upd H d xN)) ∧ (b = true → Q .non H)
section
variable {P : Program} {w : World} {K : PySem.W.Frag} {mg : Str → Option Value} {base : Heap} {C fI : Addr}
theorem scMust : FnScope ["so"] ["so"] (defScope s_must) := ⟨rfl, rfl, rfl, by decide +kernel, rfl, by decide +kernel, by decide +kernel⟩
theorem ok_must {f : Addr} {fd fdI : FuncData} (D : Df K mg "must" s_must ["so"] f fd) (R : RefT K mg C fI) (FI : Fun K "__init__" "Refused.__init__" sInit fI fdI) (bI : Binds K fdI ["self", "number"] []) :
    FnOk P w K mg base (L2.CX P w) 3 f fd ["so"] (spMust C) := by
  refine D.F.okX scMust (fun vs H Q E h => ?_) (fun cdv A outer s H vs Q E hr h => ⟨_, pss_one (ps_if (pt_not (pt_val (pv 0)))
    (pss_one (ps_raise rfl (takes_of rfl rfl rfl rfl) (pmk_oex R.oex R.iC R.tI (ok_init FI R) hr bI .nil pass0 rfl R.gC (pa_cons (pe_ct R.mOut) pa_nil)))) pss_nil), ?_⟩)
  · obtain ⟨b, rfl, _⟩ := h
    rfl
  · obtain ⟨b, rfl, kF, kT⟩ := h
    refine ⟨_, rfl, b, rfl, ?_⟩
    cases b with
    | true => exact iteF (kT rfl)
    | false =>
      refine iteT ⟨by show 1 ≤ 1000; decide, fun a ha => ⟨a, .int (-22), rfl, upd_same, fun d n ne => ⟨rfl, d, [(("number" : Str), .int (-22))], upd_same, ?_, ?_, ?_⟩⟩⟩
      · rw [upd_ne ne, upd_same]
      · rw [upd_ne ne] at n
        exact n
      · rw [raised_heap ha ne]
        rw [upd_ne ne] at n
        exact kF rfl d n
end
/-! ### is_load -/
def spIsLoad : Sp := fun vs H Q _ => ∃ g e h : Int, vs = [.int g, .int e, .int h] ∧ Q (.bl (okL (g, e, h))) H
section
variable {P : Program} {w : World} {K : PySem.W.Frag} {mg : Str → Option Value} {base : Heap}
theorem scIsLoad : FnScope ["gross", "earth", "held"] ["gross", "earth", "held"] (defScope s_is_load) := ⟨rfl, rfl, rfl, by decide +kernel, rfl, by decide +kernel, by decide +kernel⟩
theorem ok_isload {f : Addr} {fd : FuncData} (D : Df K mg "is_load" s_is_load ["gross", "earth", "held"] f fd) (cW : Ct mg "MOST_WEIGHED" 50000) (cE : Ct mg "MOST_EARTH" 1000) (cH : Ct mg "MOST_HELD" 2500) :
    FnOk P w K mg base CX0 1 f fd ["gross", "earth", "held"] spIsLoad := by
  refine D.F.ok scIsLoad (fun vs H Q E h => ?_) (fun cdv A outer s H vs Q E hr h => ⟨_, pss_one (ps_ret (pe_and (pe_cmp (pc_le (pv 0) (pe_ct cW))) (pe_and (pe_cmp (pc_le (pv 1) (pe_ct cE))) (pe_one (pe_cmp (pc_le (pv 2) (pe_ct cH))))))), ?_⟩)
  · obtain ⟨g, e, h, rfl, _⟩ := h
    rfl
  · obtain ⟨g, e, h, rfl, k⟩ := h
    refine ⟨_, rfl, g, 50000, rfl, rfl, _, rfl, ?_⟩
    refine ite2 (fun (h1 : decide (g ≤ 50000) = true) => ?_) (fun (h1 : ¬ decide (g ≤ 50000) = true) => ?_)
    · refine ⟨_, rfl, e, 1000, rfl, rfl, _, rfl, ?_⟩
      refine ite2 (fun (h2 : decide (e ≤ 1000) = true) => ?_) (fun (h2 : ¬ decide (e ≤ 1000) = true) => ?_)
      · refine ⟨_, rfl, h, 2500, rfl, rfl, ?_⟩
        have q : okL (g, e, h) = decide (h ≤ 2500) := by
          unfold okL
          rw [h1, h2, Bool.true_and, Bool.true_and]
        rw [q] at k
        exact k
      · have q : okL (g, e, h) = false := by
          unfold okL
          rw [h1, Bool.eq_false_iff.mpr h2, Bool.true_and, Bool.false_and]
        rw [q] at k
        exact k
    · have q : okL (g, e, h) = false := by
        unfold okL
        rw [Bool.eq_false_iff.mpr h1, Bool.false_and]
      rw [q] at k
      exact k
end
/-! ### look_at_terms -/
def spTerms (C : Addr) : Sp := fun vs H Q E => ∃ b s : Int, vs = [.int b, .int s] ∧ (okT b s = false → ∀ d : Addr, H d = none → E (.ref C) (some d) (upd H d xN)) ∧ (okT b s = true → Q .non H)
section
variable {P : Program} {w : World} {K : PySem.W.Frag} {mg : Str → Option Value} {base : Heap} {C fI : Addr}
theorem scTerms : FnScope ["base", "step"] ["base", "step"] (defScope s_look_at_terms) := ⟨rfl, rfl, rfl, by decide +kernel, rfl, by decide +kernel, by decide +kernel⟩
theorem ok_terms {f fM : Addr} {fd fdM : FuncData} (D : Df K mg "look_at_terms" s_look_at_terms ["base", "step"] f fd) (DM : Df K mg "must" s_must ["so"] fM fdM) (GM : FnOk P w K mg base (L2.CX P w) 3 fM fdM ["so"] (spMust C))
    (cB : Ct mg "MOST_BASE" 10000) (cS : Ct mg "MOST_STEP" 10) : FnOk P w K mg base (L2.CX P w) 4 f fd ["base", "step"] (spTerms C) := by
  refine D.F.okX scTerms (fun vs H Q E h => ?_) (fun cdv A outer s H vs Q E hr h => ⟨_, pss_one (ps_expr (pe_callS GM hr rfl DM.g DM.F.kp DM.b (fun σ => passAt (takes_of rfl rfl rfl rfl) σ)
    (pa_cons (pe_and (pe_cmp (pc_le (pv 0) (pe_ct cB))) (pe_one (pe_cmp (pc_le (pv 1) (pe_ct cS))))) pa_nil))), ?_⟩)
  · obtain ⟨b, s, rfl, _⟩ := h
    rfl
  · obtain ⟨b, s, rfl, kF, kT⟩ := h
    refine ⟨_, rfl, b, 10000, rfl, rfl, _, rfl, ?_⟩
    refine ite2 (fun (h1 : decide (b ≤ 10000) = true) => ?_) (fun (h1 : ¬ decide (b ≤ 10000) = true) => ?_)
    · refine ⟨_, rfl, s, 10, rfl, rfl, _, rfl, fun (h2 : decide (s ≤ 10) = false) => ?_, fun (h2 : decide (s ≤ 10) = true) => ?_⟩
      · exact kF (by unfold okT; rw [h1, h2]; rfl)
      · exact kT (by unfold okT; rw [h1, h2]; rfl)
    · refine ⟨_, rfl, fun _ => kF ?_, fun z => Bool.noConfusion z⟩
      unfold okT
      rw [Bool.eq_false_iff.mpr h1]
      rfl
end
/-! ### loads_in -/
/-- at p a list of tuples, the loads l -/
def LoadsAt (H : Hp) (p : Addr) (l : List L3) : Prop := ∃ ts : List Addr, H p = some (.lst (ts.map V.ref)) ∧ ts.length = l.length ∧ ∀ (i : Nat) (t : Addr) (x : L3), ts[i]? = some t → l[i]? = some x → H t = some (.tup [.int x.1, .int x.2.1, .int x.2.2])
theorem LoadsAt.same {H H' : Hp} {p : Addr} {l : List L3} (s : Same H H') (h : LoadsAt H p l) : LoadsAt H' p l := by
  obtain ⟨ts, h1, h2, h3⟩ := h
  exact ⟨ts, s _ _ h1, h2, fun i t x a b => s _ _ (h3 i t x a b)⟩
theorem LoadsAt.nil {H : Hp} {p : Addr} (h : H p = some (.lst [])) : LoadsAt H p [] := ⟨[], h, rfl, fun i t x a => by simp at a⟩
theorem LoadsAt.more {H : Hp} {p t : Addr} {l : List L3} {x : L3} (h : LoadsAt H p l) (ht : H t = none) :
    ∃ xs : List V, H p = some (.lst xs) ∧ xs.length = l.length ∧ LoadsAt (upd (upd H t (.tup [.int x.1, .int x.2.1, .int x.2.2])) p (.lst (xs ++ [.ref t]))) p (l ++ [x]) := by
  obtain ⟨ts, h1, h2, h3⟩ := h
  have tp : t ≠ p := fun z => by rw [z, h1] at ht; cases ht
  refine ⟨ts.map V.ref, h1, by rw [List.length_map, h2], ts ++ [t], ?_, ?_, fun i t' y a b => ?_⟩
  · rw [upd_same, List.map_append]
    rfl
  · rw [List.length_append, List.length_append, h2]
    rfl
  · by_cases hi : i < ts.length
    · rw [List.getElem?_append_left hi] at a
      rw [List.getElem?_append_left (by omega)] at b
      have z := h3 i t' y a b
      have n1 : t' ≠ p := ne_of z h1 (by intro q; cases q)
      rw [upd_ne n1, upd_ne (ne_of_none z ht)]
      exact z
    · rw [List.getElem?_append_right (by omega)] at a
      rw [List.getElem?_append_right (by omega)] at b
      have hz : i - ts.length = 0 := by
        apply Classical.byContradiction
        intro q
        rw [List.getElem?_eq_none (by simp; omega)] at a
        cases a
      rw [hz] at a
      rw [show i - l.length = 0 by omega] at b
      have e1 : t = t' := Option.some.inj a
      have e2 : x = y := Option.some.inj b
      subst e1 e2
      rw [upd_ne tp, upd_same]
theorem take_more {α : Type} {l : List α} {i : Nat} {x : α} (h : l[i]? = some x) : l.take (i + 1) = l.take i ++ [x] := by
  rw [List.take_add_one, h]
  rfl
theorem cut3 {ns : List Int} {n i : Nat} {g e h : Int} (hn : ns.length = 3 * n) (hi : i < n) (c : (ns.drop (3 * i)).take 3 = [g, e, h]) :
    cutV (ns.map V.int) (some (0 + (i : Nat) * 3)) (some (0 + (i : Nat) * 3 + 3)) = [.int g, .int e, .int h] := by
  unfold cutV
  have e1 : (0 + (i : Int) * 3) = ((3 * i : Nat) : Int) := by omega
  have e2 : ((3 * i : Nat) : Int) + 3 = ((3 * i + 3 : Nat) : Int) := by omega
  rw [e1, e2, HT.sIx_nat, HT.sIx_nat, List.length_map, Nat.min_eq_left (by omega), Nat.min_eq_left (by omega), ← List.map_drop, ← List.map_take, show 3 * i + 3 - 3 * i = 3 by omega, c]
  rfl
theorem rg3 : ∀ n : Nat, n < 21 → Builtin.Range.small 0 ((3 * n : Nat) : Int) 3 = true ∧ Builtin.Range.rangeSize 0 ((3 * n : Nat) : Int) 3 = (n : Nat) := by decide +kernel
def spLoads (C : Addr) (K : PySem.W.Frag) : Sp := fun vs H Q E => ∃ (a : Addr) (ns : List Int), vs = [.ref a] ∧ SqL K H a (ns.map V.int) ∧
  (goodI ns = false → ∀ (H' : Hp) (d : Addr), H' d = some xN → E (.ref C) (some d) H') ∧
  (goodI ns = true → ∀ (H' : Hp) (p : Addr), Same H H' → LoadsAt H' p (loadsI ns) → Q (.ref p) H')
section
variable {P : Program} {w : World} {K : PySem.W.Frag} {mg : Str → Option Value} {base : Heap} {C fI : Addr}
theorem scLoads : FnScope ["row", "found", "at", "gross", "earth", "held"] ["row"] (defScope s_loads_in) := ⟨rfl, rfl, rfl, by decide +kernel, rfl, by decide +kernel, by decide +kernel⟩
theorem ok_loads {f fM fL : Addr} {fd fdM fdL : FuncData} (D : Df K mg "loads_in" s_loads_in ["row"] f fd)
    (DM : Df K mg "must" s_must ["so"] fM fdM) (GM : FnOk P w K mg base (L2.CX P w) 3 fM fdM ["so"] (spMust C))
    (DL : Df K mg "is_load" s_is_load ["gross", "earth", "held"] fL fdL) (GL : FnOk P w K mg base CX0 1 fL fdL ["gross", "earth", "held"] spIsLoad)
    (cN : Ct mg "LOAD_NUMBERS" 3) (cL : Ct mg "MOST_LOADS" 20) (ml : mg "len" = none) (mr : mg "range" = none) : FnOk P w K mg base (L2.CX P w) 4 f fd ["row"] (spLoads C K) := by
  refine D.F.okX scLoads (fun vs H Q E h => ?_) (fun cdv A outer s H vs Q E hr h => ⟨_,
    pss_cons (ps_expr (pe_callS GM hr rfl DM.g DM.F.kp DM.b (fun σ => passAt (takes_of rfl rfl rfl rfl) σ)
      (pa_cons (pe_and (pe_cmp (pc_eqI (pe_op op_mod (pe_callB call_len_seq (by rfl) ml PySem.boot_len (pa_cons (pv 0) pa_nil)) (pe_ct cN)) pe_int))
        (pe_one (pe_cmp (pc_le (pe_callB call_len_seq (by rfl) ml PySem.boot_len (pa_cons (pv 0) pa_nil)) (pe_op op_mul (pe_ct cL) (pe_ct cN)))))) pa_nil)))
    (pss_cons (ps_set (i := 1) scLoads.nd rfl (Or.inl rfl) (pe_lst pa_nil))
    (pss_cons (ps_for (passes_of rfl) rfl (pi_range3 rfl mr (pa_cons pe_int (pa_cons (pe_callB call_len_seq (by rfl) ml PySem.boot_len (pa_cons (pv 0) pa_nil)) (pa_cons (pe_ct cN) pa_nil)))) (pg_name (i := 2) scLoads.nd rfl (Or.inl rfl))
      (pss_cons (ps_asg (pe_slice sl_list (pv 0) (po_some (pv 2)) (po_some (pe_op op_add (pv 2) (pe_ct cN))))
        (pg_lst rfl (pgs_cons (pg_name (i := 3) scLoads.nd rfl (Or.inl rfl)) (pgs_cons (pg_name (i := 4) scLoads.nd rfl (Or.inl rfl)) (pgs_cons (pg_name (i := 5) scLoads.nd rfl (Or.inl rfl)) pgs_nil)))))
      (pss_cons (ps_expr (pe_callS GM hr rfl DM.g DM.F.kp DM.b (fun σ => passAt (takes_of rfl rfl rfl rfl) σ)
        (pa_cons (pe_call GL (hr.mono (by decide)) rfl DL.g DL.F.kp DL.b .nil pass0 (pa_cons (pv 3) (pa_cons (pv 4) (pa_cons (pv 5) pa_nil)))) pa_nil)))
      (pss_one (ps_expr (pe_bm PySem.F.plainAttrs_list PySem.F.slot_list_append PySem.F.type_list_append mt_append (pv 1) (pa_cons (pe_tup (pa_cons (pv 3) (pa_cons (pv 4) (pa_cons (pv 5) pa_nil)))) pa_nil)))))))
    (pss_one (ps_ret (pv 1))))), ?_⟩)
  · obtain ⟨a, ns, rfl, _⟩ := h
    rfl
  · obtain ⟨a, ns, rfl, hS, kF, kT⟩ := h
    have el : (((ns.map V.int).length : Nat) : Int) = (ns.length : Int) := by rw [List.length_map]
    refine ⟨_, rfl, a, _, rfl, .inl hS, _, _, rfl, rfl, (by show (0 : Int) < 3; decide), _, _, rfl, rfl, _, rfl, ?_⟩
    refine ite2 (fun (h1 : decide ((((ns.map V.int).length : Nat) : Int) % 3 = 0) = true) => ?_) (fun (h1 : ¬ decide ((((ns.map V.int).length : Nat) : Int) % 3 = 0) = true) => ?_)
    · refine ⟨_, rfl, a, _, rfl, .inl hS, _, _, rfl, rfl, .inl ⟨by decide, by decide⟩, _, _, rfl, rfl, _, rfl,
        fun (h2 : decide ((((ns.map V.int).length : Nat) : Int) ≤ 20 * 3) = false) d hd => ?_, fun (h2 : decide ((((ns.map V.int).length : Nat) : Int) ≤ 20 * 3) = true) => ?_⟩
      · refine kF ?_ _ d upd_same
        have q := of_decide_eq_false h2
        unfold goodI
        rw [decide_eq_false (show ¬ ns.length ≤ 60 by omega), Bool.and_false, Bool.false_and]
      · have q1 := of_decide_eq_true h1
        have q2 := of_decide_eq_true h2
        obtain ⟨n, hn⟩ : ∃ n, ns.length = 3 * n := ⟨ns.length / 3, by omega⟩
        have hln := loads_len n ns hn
        refine ⟨line_small (n := 0) (by decide), fun p hp => ?_⟩
        have s1 : Same H (upd H p (.lst [])) := same_new hp
        obtain ⟨r1, r2⟩ := rg3 n (by omega)
        have e3 : (((ns.map V.int).length : Nat) : Int) = ((3 * n : Nat) : Int) := by omega
        refine ⟨_, rfl, a, _, rfl, .inl (s1.seq hS), 0, _, 3, n, rfl, ⟨by decide, by decide, by rw [e3]; exact r1, by rw [e3]; exact r2⟩,
          for_rangeC (lo := 0) (c := 3) (n := n) (fun i σ H' => ∃ v2 v3 v4 v5 : Option V, σ = [some (.ref a), some (.ref p), v2, v3, v4, v5] ∧ Same H H' ∧ LoadsAt H' p ((loadsI ns).take i) ∧ ∀ x ∈ (loadsI ns).take i, okL x = true)
            ⟨none, none, none, none, rfl, s1, LoadsAt.nil upd_same, fun x hx => by simp at hx⟩ ?_ ?_⟩
        · rintro i σ H' hi ⟨v2, v3, v4, v5, rfl, sm, ld, okk⟩
          obtain ⟨g, e, h, l1, l2⟩ := loads_at n i ns hn hi
          have c3 := cut3 hn hi l2
          refine ⟨_, rfl, _, rfl, _, rfl, _, rfl, _, _, rfl, rfl, _, rfl, a, _, rfl, sm.seq hS, fun q hq => ?_⟩
          have s2 : Same H' (upd H' q (.lst (cutV (ns.map V.int) (some (0 + (i : Nat) * 3)) (some (0 + (i : Nat) * 3 + 3))))) := same_new hq
          refine ⟨q, [.int g, .int e, .int h], rfl, SqL.of (upd_same.trans (congrArg (fun z => some (HO.lst z)) c3)), rfl, _, _, rfl, _, _, rfl, _, _, rfl, rfl, ?_⟩
          refine ⟨_, rfl, _, rfl, _, rfl, g, e, h, rfl, _, rfl, fun o d hd => kF ?_ _ d upd_same, fun o => ?_⟩
          · unfold goodI
            have nall : (loadsI ns).all okL = false := by
              apply Bool.eq_false_iff.mpr
              intro z
              have := List.all_eq_true.mp z (g, e, h) (List.mem_of_getElem? l1)
              rw [o] at this
              cases this
            rw [nall, Bool.and_false]
          · have ld2 := ld.same s2
            obtain ⟨ts, hts, _, _⟩ := id ld2
            refine ⟨_, rfl, .inl ⟨rfl, _, SqL.of hts⟩, _, rfl, _, rfl, _, rfl, line_small (n := 3) (by decide), fun t ht => ?_⟩
            have s3 := same_new (o := .tup [.int g, .int e, .int h]) ht
            obtain ⟨xs, hxs, hlen, ld3⟩ := ld2.more (x := (g, e, h)) ht
            have hl2 : ((loadsI ns).take i).length ≤ 20 := by
              rw [List.length_take]
              omega
            refine ⟨p, xs, _, rfl, rfl, s3 _ _ hxs, small1000 (by omega), _, _, _, _, rfl, ?_, ?_, ?_⟩
            · intro b u hb
              have hb2 := s3 _ _ (s2 _ _ (sm _ _ hb))
              have nb : b ≠ p := ne_of_none hb hp
              rw [upd_ne nb]
              exact hb2
            · rw [take_more l1]
              exact ld3
            · rw [take_more l1]
              intro x hx
              rcases List.mem_append.mp hx with m | m
              · exact okk x m
              · rw [List.mem_singleton.mp m]
                exact o
        · rintro σ H' ⟨v2, v3, v4, v5, rfl, sm, ld, okk⟩
          have et : (loadsI ns).take n = loadsI ns := List.take_of_length_le (by omega)
          rw [et] at ld okk
          refine ⟨_, rfl, kT ?_ H' p sm ld⟩
          unfold goodI
          rw [decide_eq_true (show ns.length % 3 = 0 by omega), decide_eq_true (show ns.length ≤ 60 by omega), List.all_eq_true.mpr okk]
          rfl
    · refine ⟨_, rfl, fun _ d hd => kF ?_ _ d upd_same, fun z => Bool.noConfusion z⟩
      have q := of_decide_eq_false (Bool.eq_false_iff.mpr h1)
      unfold goodI
      rw [decide_eq_false (show ¬ ns.length % 3 = 0 by omega), Bool.false_and, Bool.false_and]
end
/-! ### earth_of, clean_of -/
def spEarthOf : Sp := fun vs H Q _ => ∃ g e : Int, vs = [.int g, .int e] ∧ (-(2 ^ 64) < g ∧ g < 2 ^ 64) ∧ Q (.int (g * e / 1000)) H
def spCleanOf : Sp := fun vs H Q _ => ∃ g e : Int, vs = [.int g, .int e] ∧ (-(2 ^ 64) < g ∧ g < 2 ^ 64) ∧ Q (.int (cleanI g e)) H
section
variable {P : Program} {w : World} {K : PySem.W.Frag} {mg : Str → Option Value} {base : Heap}
theorem scEarthOf : FnScope ["gross", "earth"] ["gross", "earth"] (defScope s_earth_of) := ⟨rfl, rfl, rfl, by decide +kernel, rfl, by decide +kernel, by decide +kernel⟩
theorem ok_earthof {f : Addr} {fd : FuncData} (D : Df K mg "earth_of" s_earth_of ["gross", "earth"] f fd) (cT : Ct mg "THOUSAND_loads" 1000) : FnOk P w K mg base CX0 1 f fd ["gross", "earth"] spEarthOf := by
  refine D.F.ok scEarthOf (fun vs H Q E h => ?_) (fun cdv A outer s H vs Q E hr h => ⟨_, pss_one (ps_ret (pe_op op_fdiv (pe_op op_mul (pv 0) (pv 1)) (pe_ct cT))), ?_⟩)
  · obtain ⟨g, e, rfl, _⟩ := h
    rfl
  · obtain ⟨g, e, rfl, hg, k⟩ := h
    exact ⟨_, rfl, _, rfl, _, _, rfl, rfl, .inl hg, _, _, rfl, rfl, ⟨by decide, by decide⟩, k⟩
theorem scCleanOf : FnScope ["gross", "earth"] ["gross", "earth"] (defScope s_clean_of) := ⟨rfl, rfl, rfl, by decide +kernel, rfl, by decide +kernel, by decide +kernel⟩
theorem ok_cleanof {f fE : Addr} {fd fdE : FuncData} (D : Df K mg "clean_of" s_clean_of ["gross", "earth"] f fd) (DE : Df K mg "earth_of" s_earth_of ["gross", "earth"] fE fdE) (GE : FnOk P w K mg base CX0 1 fE fdE ["gross", "earth"] spEarthOf) :
    FnOk P w K mg base CX0 2 f fd ["gross", "earth"] spCleanOf := by
  refine D.F.ok scCleanOf (fun vs H Q E h => ?_) (fun cdv A outer s H vs Q E hr h => ⟨_, pss_one (ps_ret (pe_op op_sub (pv 0) (pe_call GE hr rfl DE.g DE.F.kp DE.b .nil pass0 (pa_cons (pv 0) (pa_cons (pv 1) pa_nil))))), ?_⟩)
  · obtain ⟨g, e, rfl, _⟩ := h
    rfl
  · obtain ⟨g, e, rfl, hg, k⟩ := h
    exact ⟨_, rfl, _, rfl, _, rfl, g, e, rfl, hg, _, _, rfl, rfl, k⟩
end
/-! ### price_of -/
def spPriceOf : Sp := fun vs H Q _ => ∃ b s h : Int, vs = [.int b, .int s, .int h] ∧ (-(2 ^ 64) < s ∧ s < 2 ^ 64) ∧ Q (.int (priceI b s h)) H
section
variable {P : Program} {w : World} {K : PySem.W.Frag} {mg : Str → Option Value} {base : Heap}
theorem scPriceOf : FnScope ["base", "step", "held"] ["base", "step", "held"] (defScope s_price_of) := ⟨rfl, rfl, rfl, by decide +kernel, rfl, by decide +kernel, by decide +kernel⟩
theorem ok_priceof {f : Addr} {fd : FuncData} (D : Df K mg "price_of" s_price_of ["base", "step", "held"] f fd) (cP : Ct mg "PLAIN_HELD" 1600) (mx : mg "max" = none) : FnOk P w K mg base CX0 1 f fd ["base", "step", "held"] spPriceOf := by
  refine D.F.ok scPriceOf (fun vs H Q E h => ?_) (fun cdv A outer s H vs Q E hr h => ⟨_, pss_one (ps_ret (pe_callB (call_max2 rfl) (by rfl) mx (by decide +kernel)
    (pa_cons pe_int (pa_cons (pe_op op_add (pv 0) (pe_op op_mul (pv 1) (pe_op op_sub (pv 2) (pe_ct cP)))) pa_nil)))), ?_⟩)
  · obtain ⟨b, s, h, rfl, _⟩ := h
    rfl
  · obtain ⟨b, s, h, rfl, hs, k⟩ := h
    exact ⟨_, rfl, _, rfl, _, rfl, _, _, rfl, rfl, _, _, rfl, rfl, .inl hs, _, _, rfl, rfl, _, _, rfl, k⟩
end
/-! ### paid_of, pays_of -/
def spPaidOf : Sp := fun vs H Q _ => ∃ w a p : Int, vs = [.int w, .int a, .int p] ∧ (-(2 ^ 64) < w ∧ w < 2 ^ 64) ∧ (-(2 ^ 64) < a ∧ a < 2 ^ 64) ∧ Q (.int (paidI w a p)) H
def spPaysOf : Sp := fun vs H Q _ => ∃ (b s q : Int) (p : Addr) (l : List L3), vs = [.int b, .int s, .int q, .ref p] ∧ LoadsAt H p l ∧ (∀ x ∈ l, pos3 x) ∧ (∀ x ∈ l, okL x = true) ∧ l.length ≤ 20 ∧ 0 ≤ q ∧ (0 ≤ s ∧ s ≤ 10) ∧
  ∀ (H' : Hp) (r : Addr), H' r = some (.lst ((paysI b s q l).map V.int)) → Q (.ref r) H'
/-- the i-th tuple -/
theorem tuple_at {H H' : Hp} {ts : List Addr} {l : List L3} {i : Nat} {x : V} (hl : ts.length = l.length) (h : ∀ (i : Nat) (t : Addr) (x : L3), ts[i]? = some t → l[i]? = some x → H t = some (.tup [.int x.1, .int x.2.1, .int x.2.2])) (sm : Same H H')
    (hx : (ts.map V.ref)[i]? = some x) : ∃ (t : Addr) (y : L3), x = .ref t ∧ l[i]? = some y ∧ H' t = some (.tup [.int y.1, .int y.2.1, .int y.2.2]) := by
  rw [List.getElem?_map] at hx
  cases e : ts[i]? with
  | none =>
    rw [e] at hx
    cases hx
  | some t =>
    rw [e] at hx
    have hi : i < l.length := by
      rw [← hl]
      exact (List.getElem?_eq_some_iff.mp e).1
    exact ⟨t, l[i], (Option.some.inj hx).symm, List.getElem?_eq_getElem hi, sm _ _ (h i t _ e (List.getElem?_eq_getElem hi))⟩
/-- a store at an address that was free keeps what stood -/
theorem same_upd {H H' : Hp} {D : Addr} {o : HO} (hD : H D = none) (s : Same H H') : Same H (upd H' D o) := fun b u e => by
  rw [upd_ne (ne_of_none e hD)]
  exact s _ _ e
section
variable {P : Program} {w : World} {K : PySem.W.Frag} {mg : Str → Option Value} {base : Heap}
theorem scPaidOf : FnScope ["within", "above", "price"] ["within", "above", "price"] (defScope s_paid_of) := ⟨rfl, rfl, rfl, by decide +kernel, rfl, by decide +kernel, by decide +kernel⟩
theorem ok_paidof {f : Addr} {fd : FuncData} (D : Df K mg "paid_of" s_paid_of ["within", "above", "price"] f fd) (cT : Ct mg "THOUSAND_prices" 1000) : FnOk P w K mg base CX0 1 f fd ["within", "above", "price"] spPaidOf := by
  refine D.F.ok scPaidOf (fun vs H Q E h => ?_) (fun cdv A outer s H vs Q E hr h => ⟨_, pss_one (ps_ret (pe_op op_fdiv (pe_op op_add (pe_op op_mul (pv 0) (pv 2)) (pe_op op_fdiv (pe_op op_mul (pv 1) (pv 2)) pe_int)) (pe_ct cT))), ?_⟩)
  · obtain ⟨w, a, p, rfl, _⟩ := h
    rfl
  · obtain ⟨w, a, p, rfl, hw, ha, k⟩ := h
    exact ⟨_, rfl, _, rfl, _, _, rfl, rfl, .inl hw, _, rfl, _, rfl, _, _, rfl, rfl, .inl ha, _, _, rfl, rfl, ⟨by decide, by decide⟩, _, _, rfl, rfl, _, _, rfl, rfl, ⟨by decide, by decide⟩, k⟩
theorem scPaysOf : FnScope ["base", "step", "quota", "loads", "found", "left", "gross", "earth", "held", "clean", "within"] ["base", "step", "quota", "loads"] (defScope s_pays_of) := ⟨rfl, rfl, rfl, by decide +kernel, rfl, by decide +kernel, by decide +kernel⟩
theorem ok_paysof {f fC fA fP : Addr} {fd fdC fdA fdP : FuncData} (D : Df K mg "pays_of" s_pays_of ["base", "step", "quota", "loads"] f fd)
    (DC : Df K mg "clean_of" s_clean_of ["gross", "earth"] fC fdC) (GC : FnOk P w K mg base CX0 2 fC fdC ["gross", "earth"] spCleanOf)
    (DA : Df K mg "paid_of" s_paid_of ["within", "above", "price"] fA fdA) (GA : FnOk P w K mg base CX0 1 fA fdA ["within", "above", "price"] spPaidOf)
    (DP : Df K mg "price_of" s_price_of ["base", "step", "held"] fP fdP) (GP : FnOk P w K mg base CX0 1 fP fdP ["base", "step", "held"] spPriceOf)
    (mm : mg "min" = none) : FnOk P w K mg base CX0 3 f fd ["base", "step", "quota", "loads"] spPaysOf := by
  refine D.F.ok scPaysOf (fun vs H Q E h => ?_) (fun cdv A outer s H vs Q E hr h => ⟨_,
    pss_cons (ps_set (i := 4) scPaysOf.nd rfl (Or.inl rfl) (pe_lst pa_nil))
    (pss_cons (ps_set (i := 5) scPaysOf.nd rfl (Or.inl rfl) (pv 2))
    (pss_cons (ps_for PassesOwn.never rfl (pi_list (pv 3)) (pg_tup rfl (pgs_cons (pg_name (i := 6) scPaysOf.nd rfl (Or.inl rfl)) (pgs_cons (pg_name (i := 7) scPaysOf.nd rfl (Or.inl rfl)) (pgs_cons (pg_name (i := 8) scPaysOf.nd rfl (Or.inl rfl)) pgs_nil))))
      (pss_cons (ps_set (i := 9) scPaysOf.nd rfl (Or.inl rfl) (pe_call GC hr rfl DC.g DC.F.kp DC.b .nil pass0 (pa_cons (pv 6) (pa_cons (pv 7) pa_nil))))
      (pss_cons (ps_set (i := 10) scPaysOf.nd rfl (Or.inl rfl) (pe_callB (call_min2 rfl) (by rfl) mm (by decide +kernel) (pa_cons (pv 9) (pa_cons (pv 5) pa_nil))))
      (pss_cons (ps_expr (pe_bm PySem.F.plainAttrs_list PySem.F.slot_list_append PySem.F.type_list_append mt_append (pv 4)
        (pa_cons (pe_call GA (hr.mono (by decide)) rfl DA.g DA.F.kp DA.b .nil pass0 (pa_cons (pv 10) (pa_cons (pe_op op_sub (pv 9) (pv 10)) (pa_cons (pe_call GP (hr.mono (by decide)) rfl DP.g DP.F.kp DP.b .nil pass0 (pa_cons (pv 0) (pa_cons (pv 1) (pa_cons (pv 8) pa_nil)))) pa_nil)))) pa_nil)))
      (pss_one (ps_set (i := 5) scPaysOf.nd rfl (Or.inl rfl) (pe_op op_sub (pv 5) (pv 10))))))))
    (pss_one (ps_ret (pv 4))))), ?_⟩)
  · obtain ⟨b, s, q, p, l, rfl, _⟩ := h
    rfl
  · obtain ⟨b, s, q, p, l, rfl, ⟨ts, h1, h2, h3⟩, ps, os, hl, hq, hs, k⟩ := h
    refine ⟨line_small (n := 0) (by decide), fun D hD => ⟨_, rfl, ?_⟩⟩
    refine ⟨_, rfl, p, rfl, ⟨_, SqL.of (same_new hD _ _ h1)⟩, for_list (K := K) (a := p) (xs := ts.map V.ref)
      (fun i σ H' => ∃ v6 v7 v8 v9 v10 : Option V, σ = [some (.int b), some (.int s), some (.int q), some (.ref p), some (.ref D), some (.int (leftI q (l.take i))), v6, v7, v8, v9, v10] ∧ Same H H' ∧ H' D = some (.lst ((paysI b s q (l.take i)).map V.int)))
      ⟨none, none, none, none, none, rfl, same_new hD, upd_same⟩ (fun i σ H' _ z => ?_) ?_ ?_⟩
    · obtain ⟨_, _, _, _, _, _, sm, _⟩ := z
      exact SqL.of (sm _ _ h1)
    · rintro i x σ H' hx ⟨v6, v7, v8, v9, v10, rfl, sm, hd⟩
      obtain ⟨t, y, rfl, hy, ht⟩ := tuple_at h2 h3 sm hx
      have my := List.mem_of_getElem? hy
      have b1 := (ps y my).1
      have b2 := (okL_iff.mp (os y my)).1
      have b3 := cleanI_bd (ps y my) (os y my)
      have b4 := wI_bd (left_bd (l.take i) q hq) b3.1 b3.2
      have tm := take_more hy
      refine ⟨t, _, rfl, SqT.of ht, rfl, _, _, rfl, _, _, rfl, _, _, rfl, rfl, ?_⟩
      refine ⟨_, rfl, _, rfl, y.1, y.2.1, rfl, ⟨by omega, by omega⟩, ?_⟩
      refine ⟨_, rfl, _, rfl, cleanI y.1 y.2.1, leftI q (l.take i), rfl, ?_⟩
      show tSeq _ _ _ (List.set _ 10 (some (.int (wI (leftI q (l.take i)) (cleanI y.1 y.2.1))))) H'
      refine ⟨_, rfl, .inl ⟨rfl, _, SqL.of hd⟩, _, rfl, _, rfl, _, rfl, _, _, rfl, rfl, _, rfl, _, rfl, _, rfl, b, s, y.2.2, rfl, ⟨by omega, by omega⟩, _, _, _, rfl, ⟨by omega, by omega⟩, ⟨by omega, by omega⟩, D, _, _, rfl, rfl, hd, small1000 ?_, ?_⟩
      · rw [List.length_map, pays_len, List.length_take]
        omega
      · refine ⟨_, rfl, _, rfl, _, _, rfl, rfl, some (.int y.1), some (.int y.2.1), some (.int y.2.2), some (.int (cleanI y.1 y.2.1)), some (.int (wI (leftI q (l.take i)) (cleanI y.1 y.2.1))), ?_, same_upd hD sm, ?_⟩
        · rw [tm, left_snoc]
          rfl
        · rw [upd_same, tm, pays_snoc, List.map_append]
          rfl
    · rintro σ H' ⟨v6, v7, v8, v9, v10, rfl, sm, hd⟩
      refine ⟨_, rfl, k H' D ?_⟩
      rw [hd, List.length_map, h2, List.take_length]
end
/-! ### pay -/
def spMain (K : PySem.W.Frag) : Sp := fun vs H Q _ => ∃ (b s q : Int) (a : Addr) (ns : List Int), vs = [.int b, .int s, .int q, .ref a] ∧ SqL K H a (ns.map V.int) ∧ (∀ x ∈ ns, 0 ≤ x) ∧ 0 ≤ b ∧ 0 ≤ s ∧ 0 ≤ q ∧
  ∀ (H' : Hp) (p : Addr), H' p = some (.lst ((payAns b s q ns).map V.int)) → Q (.ref p) H'
section
variable {P : Program} {w : World} {K : PySem.W.Frag} {mg : Str → Option Value} {base : Heap} {C fI : Addr}
theorem scMain : FnScope ["base", "step", "quota", "l", "loads", "refusal", "found"] ["base", "step", "quota", "l"] (defScope s_pay) := ⟨rfl, rfl, rfl, by decide +kernel, rfl, by decide +kernel, by decide +kernel⟩
theorem ok_main {f fL fM fT fP : Addr} {fd fdL fdM fdT fdP : FuncData} (D : Df K mg "pay" s_pay ["base", "step", "quota", "l"] f fd) (R : RefT K mg C fI)
    (DM : Df K mg "must" s_must ["so"] fM fdM) (GM : FnOk P w K mg base (L2.CX P w) 3 fM fdM ["so"] (spMust C))
    (DT : Df K mg "look_at_terms" s_look_at_terms ["base", "step"] fT fdT) (GT : FnOk P w K mg base (L2.CX P w) 4 fT fdT ["base", "step"] (spTerms C))
    (DL : Df K mg "loads_in" s_loads_in ["row"] fL fdL) (GL : FnOk P w K mg base (L2.CX P w) 4 fL fdL ["row"] (spLoads C K))
    (DP : Df K mg "pays_of" s_pays_of ["base", "step", "quota", "loads"] fP fdP) (GP : FnOk P w K mg base CX0 3 fP fdP ["base", "step", "quota", "loads"] spPaysOf)
    (cQ : Ct mg "MOST_QUOTA" 1000000) (ms : mg "sum" = none) : FnOk P w K mg base CX0 5 f fd ["base", "step", "quota", "l"] (spMain K) := by
  refine D.F.ok scMain (fun vs H Q E h => ?_) (fun cdv A outer s H vs Q E hr h => ⟨_, pss_cons (ps_try_as (i := 5) rfl rfl scMain.nd rfl rfl ⟨rfl, by decide, Or.inl R.gC⟩ takes0
      (fun W pn xe tk _ => pss_cons (ps_set (i := 4) scMain.nd rfl (Or.inl rfl) (pe_callS GL hr rfl DL.g DL.F.kp DL.b (fun σ => passAt tk σ) (pa_cons (pv 3) pa_nil)))
        (pss_cons (ps_expr (pe_callS GT hr rfl DT.g DT.F.kp DT.b (fun σ => passAt tk σ) (pa_cons (pv 0) (pa_cons (pv 1) pa_nil))))
        (pss_one (ps_expr (pe_callS GM (hr.mono (by decide)) rfl DM.g DM.F.kp DM.b (fun σ => passAt tk σ) (pa_cons (pe_cmp (pc_le (pv 2) (pe_ct cQ))) pa_nil))))))
      (fun a oe cls d pn hz hf => pss_one (ps_ret (pe_lst (pa_cons (pe_xf R.xf R.noN hz hf (pv 5)) pa_nil)))))
    (pss_cons (ps_set (i := 6) scMain.nd rfl (Or.inl rfl) (pe_call GP (hr.mono (by decide)) rfl DP.g DP.F.kp DP.b .nil pass0 (pa_cons (pv 0) (pa_cons (pv 1) (pa_cons (pv 2) (pa_cons (pv 4) pa_nil))))))
    (pss_one (ps_ret (pe_op op_cat (pe_lst (pa_cons (pe_callB (cr_sum rfl) (by rfl) ms (by decide +kernel) (pa_cons (pv 6) pa_nil)) pa_nil)) (pv 6))))), ?_⟩)
  · obtain ⟨b, s, q, a, ns, rfl, _⟩ := h
    rfl
  · obtain ⟨b, s, q, a, ns, rfl, hS, hn, hb, hs, hq, k⟩ := h
    refine ⟨_, rfl, a, ns, rfl, hS, fun o H' d hd => ?_, fun o H1 p sm ld => ?_⟩
    · refine ⟨true, R.te, fun _ a _ => ?_, fun q => Bool.noConfusion q⟩
      refine ⟨_, rfl, rfl, rfl, d, _, _, rfl, hd, lkN, line_small (n := 1) (by decide), fun p hp => k _ p ?_⟩
      rw [upd_same, payAns, if_neg (by rw [o]; intro z; exact Bool.noConfusion z.1)]
      rfl
    · refine ⟨_, rfl, _, rfl, b, s, rfl, fun o2 d hd => ?_, fun o2 => ?_⟩
      · refine ⟨true, R.te, fun _ a _ => ?_, fun q => Bool.noConfusion q⟩
        refine ⟨_, rfl, rfl, rfl, d, _, _, rfl, upd_same, lkN, line_small (n := 1) (by decide), fun p hp => k _ p ?_⟩
        rw [upd_same, payAns, if_neg (by rw [o2]; intro z; exact Bool.noConfusion z.2.1)]
        rfl
      · refine ⟨_, rfl, q, 1000000, rfl, rfl, _, rfl, fun o3 d hd => ?_, fun o3 => ?_⟩
        · refine ⟨true, R.te, fun _ a _ => ?_, fun q => Bool.noConfusion q⟩
          refine ⟨_, rfl, rfl, rfl, d, _, _, rfl, upd_same, lkN, line_small (n := 1) (by decide), fun p hp => k _ p ?_⟩
          rw [upd_same, payAns, if_neg (by intro z; exact of_decide_eq_false o3 z.2.2)]
          rfl
        · obtain ⟨n, _, n20, hln⟩ := good_len o
          have s10 := (okT_iff.mp o2).2
          have hlen : (paysI b s q (loadsI ns)).length ≤ 20 := by
            rw [pays_len]
            omega
          refine ⟨_, rfl, _, rfl, _, rfl, _, rfl, b, s, q, p, loadsI ns, rfl, ld, loads_pos ns hn, good_ok o, by omega, hq, ⟨hs, s10⟩, fun H2 r e2 => ?_⟩
          refine ⟨_, rfl, r, paysI b s q (loadsI ns), rfl, SqL.of e2, line_small (n := 1) (by decide), fun t ht => ?_⟩
          refine ⟨_, rfl, t, r, _, _, rfl, rfl, upd_same, same_new ht _ _ e2, line_small ?_, fun u hu => k _ u ?_⟩
          · rw [List.length_map]
            show 1 + _ ≤ 1000
            omega
          · rw [upd_same, payAns, if_pos ⟨o, o2, of_decide_eq_true o3⟩]
            rfl
end
theorem main_spec (K : PySem.W.Frag) (H : Hp) (xs : List V) (a : Codec.denoteAll PySem.Challenge.rw_growerspaid_s03_pay.args) (hwi : Codec.withinAll PySem.Challenge.rw_growerspaid_s03_pay.args a = true)
    (hx : DwAll K H xs (Codec.encAll PySem.Challenge.rw_growerspaid_s03_pay.args a)) :
    spMain K xs H (fun v H' => Dw K H' v (PySem.Challenge.rw_growerspaid_s03_pay.ret.enc (Codec.app PySem.Challenge.rw_growerspaid_s03_pay.args PySem.Challenge.rw_growerspaid_s03_pay.f a))) fun _ _ _ => False := by
  obtain ⟨b, s, q, l, u⟩ := a
  have w : (Codec.inInt 0 4294967295 b && (Codec.inInt 0 4294967295 s && (Codec.inInt 0 4294967295 q && ((Codec.inLen 0 66 l && List.all l (Codec.inInt 0 4294967295)) && true)))) = true := hwi
  rw [Bool.and_eq_true, Bool.and_eq_true, Bool.and_eq_true, Bool.and_eq_true, Bool.and_eq_true, Codec.inInt_iff, Codec.inInt_iff, Codec.inInt_iff] at w
  have hn : ∀ x ∈ (show List Int from l), 0 ≤ x := fun x hx => (Codec.inInt_iff.mp (List.all_eq_true.mp w.2.2.2.1.2 x hx)).1
  cases hx with
  | cons h1 h2 =>
    cases h2 with
    | cons h2 h3 =>
      cases h3 with
      | cons h3 h4 =>
        cases h4 with
        | cons h4 h5 =>
          cases h5
          cases h1
          cases h2
          cases h3
          cases h4 with
          | lst hs ha =>
            have e := ints_dw l _ ha
            subst e
            refine ⟨b, s, q, _, l, rfl, hs, hn, w.1.1, w.2.1.1, w.2.2.1.1, fun H' p hp => ?_⟩
            show Dw K H' (.ref p) (.list ((PyKzb6.pay b s q l).map PySem.W.WData.int))
            rw [s03_is w.1.1 w.2.1.1 w.2.2.1.1 hn]
            exact .lst (SqL.of hp) (dw_ints _)
/-! ### the end: what the top has written -/
theorem exm_self {K : PySem.W.Frag} {S : Addr} (h1 : PySem.W.subIn K (.ref S) (.type "BaseException") = some true) (h2 : PySem.W.isClsIn K S = true) (h3 : PySem.W.typeIn K (.ref S) = some (.type "type")) (h4 : PySem.W.subIn K (.ref S) (.ref S) = some true) :
    PySem.W.exmOne K (.ref S) (.ref S) = some true := by
  have e1 : (PySem.W.subIn K (.ref S) (.type "BaseException") == some true) = true := by rw [h1] <;> rfl
  have e2 : ((PySem.W.clsIn K S).isSome && PySem.W.typeIn K (.ref S) == some (.type "type")) = true := by
    have h2' : (PySem.W.clsIn K S).isSome = true := h2
    rw [h2', h3] <;> rfl
  show (if (PySem.W.subIn K (.ref S) (.type "BaseException") == some true) = true then (if ((PySem.W.clsIn K S).isSome && PySem.W.typeIn K (.ref S) == some (.type "type")) = true then PySem.W.subIn K (.ref S) (.ref S) else none) else none) = some true
  rw [if_pos e1, if_pos e2]
  exact h4
theorem all_mk {P : Program} {w : World} {K : PySem.W.Frag} {h : Heap} {mg : Str → Option Value} {fa C f0 : Addr}
    {f_must f_is_load f_look_at_terms f_loads_in f_earth_of f_clean_of f_price_of f_paid_of f_pays_of f_pay : Addr}
    {od0 an0 : Option Addr} {sl0 : Array (Option Value)} {oc0 kV0 dc0 pm0 cd0 ct0 : Value}
    {od_must an_must : Option Addr} {sl_must : Array (Option Value)} {oc_must kV_must dc_must pm_must cd_must ct_must : Value}
    {od_is_load an_is_load : Option Addr} {sl_is_load : Array (Option Value)} {oc_is_load kV_is_load dc_is_load pm_is_load cd_is_load ct_is_load : Value}
    {od_look_at_terms an_look_at_terms : Option Addr} {sl_look_at_terms : Array (Option Value)} {oc_look_at_terms kV_look_at_terms dc_look_at_terms pm_look_at_terms cd_look_at_terms ct_look_at_terms : Value}
    {od_loads_in an_loads_in : Option Addr} {sl_loads_in : Array (Option Value)} {oc_loads_in kV_loads_in dc_loads_in pm_loads_in cd_loads_in ct_loads_in : Value}
    {od_earth_of an_earth_of : Option Addr} {sl_earth_of : Array (Option Value)} {oc_earth_of kV_earth_of dc_earth_of pm_earth_of cd_earth_of ct_earth_of : Value}
    {od_clean_of an_clean_of : Option Addr} {sl_clean_of : Array (Option Value)} {oc_clean_of kV_clean_of dc_clean_of pm_clean_of cd_clean_of ct_clean_of : Value}
    {od_price_of an_price_of : Option Addr} {sl_price_of : Array (Option Value)} {oc_price_of kV_price_of dc_price_of pm_price_of cd_price_of ct_price_of : Value}
    {od_paid_of an_paid_of : Option Addr} {sl_paid_of : Array (Option Value)} {oc_paid_of kV_paid_of dc_paid_of pm_paid_of cd_paid_of ct_paid_of : Value}
    {od_pays_of an_pays_of : Option Addr} {sl_pays_of : Array (Option Value)} {oc_pays_of kV_pays_of dc_pays_of pm_pays_of cd_pays_of ct_pays_of : Value}
    {od_pay an_pay : Option Addr} {sl_pay : Array (Option Value)} {oc_pay kV_pay dc_pay pm_pay cd_pay ct_pay : Value}
    {nm q : Str} {N : Addr} {bs : List Value} {sn : List Str} {sub : List Value} {ab : Bool} {col : Option Bool} {dd : Option Addr} {m0 m1 m2 m3 m5 : Option Value}
    {t_OUT_OF_RANGE t_MOST_WEIGHED t_MOST_EARTH t_MOST_HELD t_MOST_BASE t_MOST_STEP t_MOST_QUOTA t_MOST_LOADS t_LOAD_NUMBERS t_THOUSAND_loads t_PLAIN_HELD t_THOUSAND_prices : Tok}
    (X : K.In h) (G : h.Ns mainGlobals mg) (hfa : mg "pay" = some (.ref fa))
    (aC : PySem.W.nsIn K mainGlobals "Refused" = some (some (.ref C)))
    (xL : K.lookup C = some (excClassObj nm q C N bs [.type "ValueError", .type "Exception", .type "BaseException", .type "object"] true sn sub ab col dd m0 m1 m2 m3 m5 "ValueError.__new__"))
    (sa : PySem.W.findIn K (.ref C) "__setattr__" = some (some (.builtin "object.__setattr__")))
    (ga : PySem.W.findIn K (.ref C) "__getattribute__" = some (some (.builtin "BaseException.__getattribute__")))
    (gg : PySem.W.findIn K (.ref C) "__getattr__" = some none)
    (nb : PySem.W.findIn K (.ref C) "number" = some none)
    (a0 : PySem.W.findIn K (.ref C) "__init__" = some (some (.ref f0)))
    (t0 : PySem.W.typeIn K (.ref f0) = some (.type "function"))
    (l0 : K.lookup f0 = some ⟨oc0, od0, .func (PySem.W.fnOf "__init__" "Refused.__init__" (defArgs sInit) (defBody sInit) (defScope sInit) .none kV0 dc0 pm0 an0 cd0 ct0), sl0⟩)
    (c0 : PySem.W.codeIn K cd0 "Refused.__init__" = true)
    (k0 : PySem.W.keepIn K (.ref f0) = true)
    (kC : PySem.W.keepIn K (.ref C) = true)
    (eC : PySem.W.subIn K (.ref C) (.type "BaseException") = some true)
    (tC : PySem.W.typeIn K (.ref C) = some (.type "type"))
    (hC : PySem.W.hasDictIn K C = true)
    (iC : PySem.W.isClsIn K C = true)
    (sC : PySem.W.subIn K (.ref C) (.ref C) = some true)
    (a_must : PySem.W.nsIn K mainGlobals "must" = some (some (.ref f_must)))
    (l_must : K.lookup f_must = some ⟨oc_must, od_must, .func (PySem.W.fnOf "must" "must" (defArgs s_must) (defBody s_must) (defScope s_must) .none kV_must dc_must pm_must an_must cd_must ct_must), sl_must⟩)
    (c_must : PySem.W.codeIn K cd_must "must" = true)
    (k_must : PySem.W.keepIn K (.ref f_must) = true)
    (a_is_load : PySem.W.nsIn K mainGlobals "is_load" = some (some (.ref f_is_load)))
    (l_is_load : K.lookup f_is_load = some ⟨oc_is_load, od_is_load, .func (PySem.W.fnOf "is_load" "is_load" (defArgs s_is_load) (defBody s_is_load) (defScope s_is_load) .none kV_is_load dc_is_load pm_is_load an_is_load cd_is_load ct_is_load), sl_is_load⟩)
    (c_is_load : PySem.W.codeIn K cd_is_load "is_load" = true)
    (k_is_load : PySem.W.keepIn K (.ref f_is_load) = true)
    (a_look_at_terms : PySem.W.nsIn K mainGlobals "look_at_terms" = some (some (.ref f_look_at_terms)))
    (l_look_at_terms : K.lookup f_look_at_terms = some ⟨oc_look_at_terms, od_look_at_terms, .func (PySem.W.fnOf "look_at_terms" "look_at_terms" (defArgs s_look_at_terms) (defBody s_look_at_terms) (defScope s_look_at_terms) .none kV_look_at_terms dc_look_at_terms pm_look_at_terms an_look_at_terms cd_look_at_terms ct_look_at_terms), sl_look_at_terms⟩)
    (c_look_at_terms : PySem.W.codeIn K cd_look_at_terms "look_at_terms" = true)
    (k_look_at_terms : PySem.W.keepIn K (.ref f_look_at_terms) = true)
    (a_loads_in : PySem.W.nsIn K mainGlobals "loads_in" = some (some (.ref f_loads_in)))
    (l_loads_in : K.lookup f_loads_in = some ⟨oc_loads_in, od_loads_in, .func (PySem.W.fnOf "loads_in" "loads_in" (defArgs s_loads_in) (defBody s_loads_in) (defScope s_loads_in) .none kV_loads_in dc_loads_in pm_loads_in an_loads_in cd_loads_in ct_loads_in), sl_loads_in⟩)
    (c_loads_in : PySem.W.codeIn K cd_loads_in "loads_in" = true)
    (k_loads_in : PySem.W.keepIn K (.ref f_loads_in) = true)
    (a_earth_of : PySem.W.nsIn K mainGlobals "earth_of" = some (some (.ref f_earth_of)))
    (l_earth_of : K.lookup f_earth_of = some ⟨oc_earth_of, od_earth_of, .func (PySem.W.fnOf "earth_of" "earth_of" (defArgs s_earth_of) (defBody s_earth_of) (defScope s_earth_of) .none kV_earth_of dc_earth_of pm_earth_of an_earth_of cd_earth_of ct_earth_of), sl_earth_of⟩)
    (c_earth_of : PySem.W.codeIn K cd_earth_of "earth_of" = true)
    (k_earth_of : PySem.W.keepIn K (.ref f_earth_of) = true)
    (a_clean_of : PySem.W.nsIn K mainGlobals "clean_of" = some (some (.ref f_clean_of)))
    (l_clean_of : K.lookup f_clean_of = some ⟨oc_clean_of, od_clean_of, .func (PySem.W.fnOf "clean_of" "clean_of" (defArgs s_clean_of) (defBody s_clean_of) (defScope s_clean_of) .none kV_clean_of dc_clean_of pm_clean_of an_clean_of cd_clean_of ct_clean_of), sl_clean_of⟩)
    (c_clean_of : PySem.W.codeIn K cd_clean_of "clean_of" = true)
    (k_clean_of : PySem.W.keepIn K (.ref f_clean_of) = true)
    (a_price_of : PySem.W.nsIn K mainGlobals "price_of" = some (some (.ref f_price_of)))
    (l_price_of : K.lookup f_price_of = some ⟨oc_price_of, od_price_of, .func (PySem.W.fnOf "price_of" "price_of" (defArgs s_price_of) (defBody s_price_of) (defScope s_price_of) .none kV_price_of dc_price_of pm_price_of an_price_of cd_price_of ct_price_of), sl_price_of⟩)
    (c_price_of : PySem.W.codeIn K cd_price_of "price_of" = true)
    (k_price_of : PySem.W.keepIn K (.ref f_price_of) = true)
    (a_paid_of : PySem.W.nsIn K mainGlobals "paid_of" = some (some (.ref f_paid_of)))
    (l_paid_of : K.lookup f_paid_of = some ⟨oc_paid_of, od_paid_of, .func (PySem.W.fnOf "paid_of" "paid_of" (defArgs s_paid_of) (defBody s_paid_of) (defScope s_paid_of) .none kV_paid_of dc_paid_of pm_paid_of an_paid_of cd_paid_of ct_paid_of), sl_paid_of⟩)
    (c_paid_of : PySem.W.codeIn K cd_paid_of "paid_of" = true)
    (k_paid_of : PySem.W.keepIn K (.ref f_paid_of) = true)
    (a_pays_of : PySem.W.nsIn K mainGlobals "pays_of" = some (some (.ref f_pays_of)))
    (l_pays_of : K.lookup f_pays_of = some ⟨oc_pays_of, od_pays_of, .func (PySem.W.fnOf "pays_of" "pays_of" (defArgs s_pays_of) (defBody s_pays_of) (defScope s_pays_of) .none kV_pays_of dc_pays_of pm_pays_of an_pays_of cd_pays_of ct_pays_of), sl_pays_of⟩)
    (c_pays_of : PySem.W.codeIn K cd_pays_of "pays_of" = true)
    (k_pays_of : PySem.W.keepIn K (.ref f_pays_of) = true)
    (a_pay : PySem.W.nsIn K mainGlobals "pay" = some (some (.ref f_pay)))
    (l_pay : K.lookup f_pay = some ⟨oc_pay, od_pay, .func (PySem.W.fnOf "pay" "pay" (defArgs s_pay) (defBody s_pay) (defScope s_pay) .none kV_pay dc_pay pm_pay an_pay cd_pay ct_pay), sl_pay⟩)
    (c_pay : PySem.W.codeIn K cd_pay "pay" = true)
    (k_pay : PySem.W.keepIn K (.ref f_pay) = true)
    (n_OUT_OF_RANGE : PySem.W.nsIn K mainGlobals "OUT_OF_RANGE" = some (some (.int (-22) t_OUT_OF_RANGE)))
    (n_MOST_WEIGHED : PySem.W.nsIn K mainGlobals "MOST_WEIGHED" = some (some (.int (50000) t_MOST_WEIGHED)))
    (n_MOST_EARTH : PySem.W.nsIn K mainGlobals "MOST_EARTH" = some (some (.int (1000) t_MOST_EARTH)))
    (n_MOST_HELD : PySem.W.nsIn K mainGlobals "MOST_HELD" = some (some (.int (2500) t_MOST_HELD)))
    (n_MOST_BASE : PySem.W.nsIn K mainGlobals "MOST_BASE" = some (some (.int (10000) t_MOST_BASE)))
    (n_MOST_STEP : PySem.W.nsIn K mainGlobals "MOST_STEP" = some (some (.int (10) t_MOST_STEP)))
    (n_MOST_QUOTA : PySem.W.nsIn K mainGlobals "MOST_QUOTA" = some (some (.int (1000000) t_MOST_QUOTA)))
    (n_MOST_LOADS : PySem.W.nsIn K mainGlobals "MOST_LOADS" = some (some (.int (20) t_MOST_LOADS)))
    (n_LOAD_NUMBERS : PySem.W.nsIn K mainGlobals "LOAD_NUMBERS" = some (some (.int (3) t_LOAD_NUMBERS)))
    (n_THOUSAND_loads : PySem.W.nsIn K mainGlobals "THOUSAND_loads" = some (some (.int (1000) t_THOUSAND_loads)))
    (n_PLAIN_HELD : PySem.W.nsIn K mainGlobals "PLAIN_HELD" = some (some (.int (1600) t_PLAIN_HELD)))
    (n_THOUSAND_prices : PySem.W.nsIn K mainGlobals "THOUSAND_prices" = some (some (.int (1000) t_THOUSAND_prices)))
    (z_len : PySem.W.nsIn K mainGlobals "len" = some none)
    (z_sum : PySem.W.nsIn K mainGlobals "sum" = some none)
    (z_min : PySem.W.nsIn K mainGlobals "min" = some none)
    (z_max : PySem.W.nsIn K mainGlobals "max" = some none)
    (z_range : PySem.W.nsIn K mainGlobals "range" = some none) :
    ∃ fd : FuncData, (∀ (s : Shared) (us : List Value), us.length = (["base", "step", "quota", "l"] : List Str).length → BindsTo s fd ⟨us, []⟩ ((["base", "step", "quota", "l"] : List Str).zip us)) ∧ ∀ base : Heap, K.In base → base.Ns mainGlobals mg → FnOk P w K mg base CX0 5 fa fd ["base", "step", "quota", "l"] (spMain K) := by
  have e : f_pay = fa := by
    have z := (PySem.W.mg_of X G a_pay).symm.trans hfa
    cases z
    rfl
  subst e
  have R : RefT K mg C f0 := ⟨PySem.W.mg_of X G aC, ⟨⟨nm, q, N, bs, _, sn, sub, ab, col, dd, m0, m1, m2, m3, m5, xL, by decide +kernel⟩, sa, eC, tC, kC⟩, ⟨ga, gg, eC, hC⟩, nb, a0, t0, exm_self eC iC tC sC, ⟨_, PySem.W.mg_of X G n_OUT_OF_RANGE⟩⟩
  have F0 := fun_mk (st := sInit) l0 c0 k0
  have b0 := F0.binds (ps := ["self", "number"]) fun _ _ _ _ _ _ us hl => match us, hl with | [_, _], _ => rfl
  have F_must := fun_mk (st := s_must) l_must c_must k_must
  have D_must : Df K mg "must" s_must ["so"] f_must _ := ⟨F_must, PySem.W.mg_of X G a_must, F_must.binds (ps := ["so"]) fun _ _ _ _ _ _ us hl => match us, hl with | [_], _ => rfl⟩
  have F_is_load := fun_mk (st := s_is_load) l_is_load c_is_load k_is_load
  have D_is_load : Df K mg "is_load" s_is_load ["gross", "earth", "held"] f_is_load _ := ⟨F_is_load, PySem.W.mg_of X G a_is_load, F_is_load.binds (ps := ["gross", "earth", "held"]) fun _ _ _ _ _ _ us hl => match us, hl with | [_, _, _], _ => rfl⟩
  have F_look_at_terms := fun_mk (st := s_look_at_terms) l_look_at_terms c_look_at_terms k_look_at_terms
  have D_look_at_terms : Df K mg "look_at_terms" s_look_at_terms ["base", "step"] f_look_at_terms _ := ⟨F_look_at_terms, PySem.W.mg_of X G a_look_at_terms, F_look_at_terms.binds (ps := ["base", "step"]) fun _ _ _ _ _ _ us hl => match us, hl with | [_, _], _ => rfl⟩
  have F_loads_in := fun_mk (st := s_loads_in) l_loads_in c_loads_in k_loads_in
  have D_loads_in : Df K mg "loads_in" s_loads_in ["row"] f_loads_in _ := ⟨F_loads_in, PySem.W.mg_of X G a_loads_in, F_loads_in.binds (ps := ["row"]) fun _ _ _ _ _ _ us hl => match us, hl with | [_], _ => rfl⟩
  have F_earth_of := fun_mk (st := s_earth_of) l_earth_of c_earth_of k_earth_of
  have D_earth_of : Df K mg "earth_of" s_earth_of ["gross", "earth"] f_earth_of _ := ⟨F_earth_of, PySem.W.mg_of X G a_earth_of, F_earth_of.binds (ps := ["gross", "earth"]) fun _ _ _ _ _ _ us hl => match us, hl with | [_, _], _ => rfl⟩
  have F_clean_of := fun_mk (st := s_clean_of) l_clean_of c_clean_of k_clean_of
  have D_clean_of : Df K mg "clean_of" s_clean_of ["gross", "earth"] f_clean_of _ := ⟨F_clean_of, PySem.W.mg_of X G a_clean_of, F_clean_of.binds (ps := ["gross", "earth"]) fun _ _ _ _ _ _ us hl => match us, hl with | [_, _], _ => rfl⟩
  have F_price_of := fun_mk (st := s_price_of) l_price_of c_price_of k_price_of
  have D_price_of : Df K mg "price_of" s_price_of ["base", "step", "held"] f_price_of _ := ⟨F_price_of, PySem.W.mg_of X G a_price_of, F_price_of.binds (ps := ["base", "step", "held"]) fun _ _ _ _ _ _ us hl => match us, hl with | [_, _, _], _ => rfl⟩
  have F_paid_of := fun_mk (st := s_paid_of) l_paid_of c_paid_of k_paid_of
  have D_paid_of : Df K mg "paid_of" s_paid_of ["within", "above", "price"] f_paid_of _ := ⟨F_paid_of, PySem.W.mg_of X G a_paid_of, F_paid_of.binds (ps := ["within", "above", "price"]) fun _ _ _ _ _ _ us hl => match us, hl with | [_, _, _], _ => rfl⟩
  have F_pays_of := fun_mk (st := s_pays_of) l_pays_of c_pays_of k_pays_of
  have D_pays_of : Df K mg "pays_of" s_pays_of ["base", "step", "quota", "loads"] f_pays_of _ := ⟨F_pays_of, PySem.W.mg_of X G a_pays_of, F_pays_of.binds (ps := ["base", "step", "quota", "loads"]) fun _ _ _ _ _ _ us hl => match us, hl with | [_, _, _, _], _ => rfl⟩
  have F_pay := fun_mk (st := s_pay) l_pay c_pay k_pay
  have D_pay : Df K mg "pay" s_pay ["base", "step", "quota", "l"] f_pay _ := ⟨F_pay, PySem.W.mg_of X G a_pay, F_pay.binds (ps := ["base", "step", "quota", "l"]) fun _ _ _ _ _ _ us hl => match us, hl with | [_, _, _, _], _ => rfl⟩
  have C_OUT_OF_RANGE : Ct mg "OUT_OF_RANGE" (-22) := ⟨_, PySem.W.mg_of X G n_OUT_OF_RANGE⟩
  have C_MOST_WEIGHED : Ct mg "MOST_WEIGHED" (50000) := ⟨_, PySem.W.mg_of X G n_MOST_WEIGHED⟩
  have C_MOST_EARTH : Ct mg "MOST_EARTH" (1000) := ⟨_, PySem.W.mg_of X G n_MOST_EARTH⟩
  have C_MOST_HELD : Ct mg "MOST_HELD" (2500) := ⟨_, PySem.W.mg_of X G n_MOST_HELD⟩
  have C_MOST_BASE : Ct mg "MOST_BASE" (10000) := ⟨_, PySem.W.mg_of X G n_MOST_BASE⟩
  have C_MOST_STEP : Ct mg "MOST_STEP" (10) := ⟨_, PySem.W.mg_of X G n_MOST_STEP⟩
  have C_MOST_QUOTA : Ct mg "MOST_QUOTA" (1000000) := ⟨_, PySem.W.mg_of X G n_MOST_QUOTA⟩
  have C_MOST_LOADS : Ct mg "MOST_LOADS" (20) := ⟨_, PySem.W.mg_of X G n_MOST_LOADS⟩
  have C_LOAD_NUMBERS : Ct mg "LOAD_NUMBERS" (3) := ⟨_, PySem.W.mg_of X G n_LOAD_NUMBERS⟩
  have C_THOUSAND_loads : Ct mg "THOUSAND_loads" (1000) := ⟨_, PySem.W.mg_of X G n_THOUSAND_loads⟩
  have C_PLAIN_HELD : Ct mg "PLAIN_HELD" (1600) := ⟨_, PySem.W.mg_of X G n_PLAIN_HELD⟩
  have C_THOUSAND_prices : Ct mg "THOUSAND_prices" (1000) := ⟨_, PySem.W.mg_of X G n_THOUSAND_prices⟩
  have Z_len : mg "len" = none := PySem.W.mg_none_of X G z_len
  have Z_sum : mg "sum" = none := PySem.W.mg_none_of X G z_sum
  have Z_min : mg "min" = none := PySem.W.mg_none_of X G z_min
  have Z_max : mg "max" = none := PySem.W.mg_none_of X G z_max
  have Z_range : mg "range" = none := PySem.W.mg_none_of X G z_range
  refine ⟨PySem.W.fnOf "pay" "pay" (defArgs s_pay) (defBody s_pay) (defScope s_pay) .none kV_pay dc_pay pm_pay an_pay cd_pay ct_pay, fun s us hu => match us, hu with | [_, _, _, _], _ => .of_eq rfl, fun base _ _ => ?_⟩
  have GM : FnOk P w K mg base (L2.CX P w) 3 f_must _ ["so"] (spMust C) := ok_must D_must R F0 b0
  have GI : FnOk P w K mg base CX0 1 f_is_load _ ["gross", "earth", "held"] spIsLoad := ok_isload D_is_load C_MOST_WEIGHED C_MOST_EARTH C_MOST_HELD
  have GC : FnOk P w K mg base CX0 2 f_clean_of _ ["gross", "earth"] spCleanOf := ok_cleanof D_clean_of D_earth_of (ok_earthof D_earth_of C_THOUSAND_loads)
  have GP : FnOk P w K mg base CX0 1 f_price_of _ ["base", "step", "held"] spPriceOf := ok_priceof D_price_of C_PLAIN_HELD Z_max
  have GA : FnOk P w K mg base CX0 1 f_paid_of _ ["within", "above", "price"] spPaidOf := ok_paidof D_paid_of C_THOUSAND_prices
  exact ok_main D_pay R D_must GM D_look_at_terms (ok_terms D_look_at_terms D_must GM C_MOST_BASE C_MOST_STEP) D_loads_in (ok_loads D_loads_in D_must GM D_is_load GI C_LOAD_NUMBERS C_MOST_LOADS Z_len Z_range) D_pays_of
    (ok_paysof D_pays_of D_clean_of GC D_paid_of GA D_price_of GP Z_min) C_MOST_QUOTA Z_sum
end Gp
open PySem PySem.W PyProof.Rows
set_option maxRecDepth 100000 in
set_option maxHeartbeats 8000000 in
theorem PySem.Challenge.cw_growerspaid_s03_pay_holds : PySem.Challenge.rw_growerspaid_s03_pay.Holds := by
  w_on; k_headS; (case hw => exact ⟨[.int 0, .int 0, .int 0, .list []], by decide +kernel, by decide +kernel⟩)
  k_fillS
  refine L2.walk_specK (r := PySem.Challenge.rw_growerspaid_s03_pay) (k := 5) (CX := L2.CX0) (ps := ["base", "step", "quota", "l"]) (sp := Gp.spMain) (by decide +kernel) rfl rfl ⟨rfl, by decide, by decide⟩ (fun w h Y => PySem.W.kIn_of Y) ?F ?S (fun _ _ _ _ z => z)
  case F =>
    intro w mg fa h Y KX G hmg
    refine' Gp.all_mk KX G hmg ?aC ?xL ?sa ?ga ?gg ?nb ?a0 ?t0 ?l0 ?c0 ?k0 ?kC ?eC ?tC ?hC ?iC ?sC ?a_must ?l_must ?c_must ?k_must ?a_is_load ?l_is_load ?c_is_load ?k_is_load ?a_look_at_terms ?l_look_at_terms ?c_look_at_terms ?k_look_at_terms ?a_loads_in ?l_loads_in ?c_loads_in ?k_loads_in ?a_earth_of ?l_earth_of ?c_earth_of ?k_earth_of ?a_clean_of ?l_clean_of ?c_clean_of ?k_clean_of ?a_price_of ?l_price_of ?c_price_of ?k_price_of ?a_paid_of ?l_paid_of ?c_paid_of ?k_paid_of ?a_pays_of ?l_pays_of ?c_pays_of ?k_pays_of ?a_pay ?l_pay ?c_pay ?k_pay ?n_OUT_OF_RANGE ?n_MOST_WEIGHED ?n_MOST_EARTH ?n_MOST_HELD ?n_MOST_BASE ?n_MOST_STEP ?n_MOST_QUOTA ?n_MOST_LOADS ?n_LOAD_NUMBERS ?n_THOUSAND_loads ?n_PLAIN_HELD ?n_THOUSAND_prices ?z_len ?z_sum ?z_min ?z_max ?z_range
    (case aC => k_is)
    (case xL => k_is)
    (case sa => k_is)
    (case ga => k_is)
    (case gg => k_is)
    (case nb => k_is)
    (case a0 => k_is)
    (case t0 => k_is)
    (case l0 => k_is)
    (case c0 => k_is)
    (case k0 => k_is)
    (case kC => k_is)
    (case eC => k_is)
    (case tC => k_is)
    (case hC => k_is)
    (case iC => k_is)
    (case sC => first | rfl | k_is)
    (case a_must => k_is)
    (case l_must => k_is)
    (case c_must => k_is)
    (case k_must => k_is)
    (case a_is_load => k_is)
    (case l_is_load => k_is)
    (case c_is_load => k_is)
    (case k_is_load => k_is)
    (case a_look_at_terms => k_is)
    (case l_look_at_terms => k_is)
    (case c_look_at_terms => k_is)
    (case k_look_at_terms => k_is)
    (case a_loads_in => k_is)
    (case l_loads_in => k_is)
    (case c_loads_in => k_is)
    (case k_loads_in => k_is)
    (case a_earth_of => k_is)
    (case l_earth_of => k_is)
    (case c_earth_of => k_is)
    (case k_earth_of => k_is)
    (case a_clean_of => k_is)
    (case l_clean_of => k_is)
    (case c_clean_of => k_is)
    (case k_clean_of => k_is)
    (case a_price_of => k_is)
    (case l_price_of => k_is)
    (case c_price_of => k_is)
    (case k_price_of => k_is)
    (case a_paid_of => k_is)
    (case l_paid_of => k_is)
    (case c_paid_of => k_is)
    (case k_paid_of => k_is)
    (case a_pays_of => k_is)
    (case l_pays_of => k_is)
    (case c_pays_of => k_is)
    (case k_pays_of => k_is)
    (case a_pay => k_is)
    (case l_pay => k_is)
    (case c_pay => k_is)
    (case k_pay => k_is)
    (case n_OUT_OF_RANGE => k_is)
    (case n_MOST_WEIGHED => k_is)
    (case n_MOST_EARTH => k_is)
    (case n_MOST_HELD => k_is)
    (case n_MOST_BASE => k_is)
    (case n_MOST_STEP => k_is)
    (case n_MOST_QUOTA => k_is)
    (case n_MOST_LOADS => k_is)
    (case n_LOAD_NUMBERS => k_is)
    (case n_THOUSAND_loads => k_is)
    (case n_PLAIN_HELD => k_is)
    (case n_THOUSAND_prices => k_is)
    (case z_len => k_is)
    (case z_sum => k_is)
    (case z_min => k_is)
    (case z_max => k_is)
    (case z_range => k_is)
  case S =>
    intro K H xs a hO hwi hask hx
    exact Gp.main_spec K H xs a hwi hx
#print axioms PySem.Challenge.cw_growerspaid_s03_pay_holds
