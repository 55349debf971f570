import PyProof.Rows.All
import Wide.All
import OpenK.AllK
import Wide.FinOn
import PyProof.EqAt
import PyProof.EqKinds
import PyProof.TupleCall
import Open.SpecLaws
import KE.OsGo
import PySem.Challenge.RW_growerspaid_s05_share
import HandS.ForSpec
import HandS.ExcInit
import HandS.ExcField
import HandS.Comp
import HandS.Dict
import HandS.Iter
import HandS.Walk
set_option Elab.async false
set_option linter.all false
set_option maxRecDepth 100000
set_option maxHeartbeats 4000000
namespace Gp
def okL (x : Int × Int × Int) : Bool := decide (x.1 ≤ 50000) && (decide (x.2.1 ≤ 1000) && decide (x.2.2 ≤ 2500))
def cleanI (g e : Int) : Int := g - g * e / 1000
def sugarI (c h : Int) : Int := c * h / 10000
def priceI (b s h : Int) : Int := if b + s * (h - 1600) > 0 then b + s * (h - 1600) else 0
def nat3 (x : Int × Int × Int) : Kzb6.Load := ⟨x.1.toNat, x.2.1.toNat, x.2.2.toNat⟩
def pos3 (x : Int × Int × Int) : Prop := 0 ≤ x.1 ∧ 0 ≤ x.2.1 ∧ 0 ≤ x.2.2
theorem okL_iff {x : Int × Int × Int} : okL x = true ↔ x.1 ≤ 50000 ∧ x.2.1 ≤ 1000 ∧ x.2.2 ≤ 2500 := by
  unfold okL
  simp only [Bool.and_eq_true, decide_eq_true_eq]
theorem okLoad_is {x : Int × Int × Int} : Kzb6.okLoad (nat3 x) = okL x := by
  apply Bool.eq_iff_iff.mpr
  rw [okL_iff]
  unfold Kzb6.okLoad nat3
  simp only [Bool.and_eq_true, decide_eq_true_eq]
  omega
theorem mulc (a b : Nat) : ((a : Int) * (b : Int)) = ((a * b : Nat) : Int) := by rw [Int.natCast_mul]
theorem clean_le (g e : Nat) (h : e ≤ 1000) : g * e / 1000 ≤ g := by
  have h1 : g * e ≤ g * 1000 := Nat.mul_le_mul_left g h
  omega
theorem clean_is {x : Int × Int × Int} (p : pos3 x) (o : okL x = true) : ((Kzb6.clean (nat3 x) : Nat) : Int) = cleanI x.1 x.2.1 := by
  obtain ⟨g, e, h⟩ := x
  obtain ⟨p1, p2, p3⟩ := p
  obtain ⟨_, o2, _⟩ := okL_iff.mp o
  obtain ⟨g, rfl⟩ := Int.eq_ofNat_of_zero_le p1
  obtain ⟨e, rfl⟩ := Int.eq_ofNat_of_zero_le p2
  have o2 : e ≤ 1000 := by simp only at o2; omega
  have q := clean_le g e o2
  show ((g - g * e / 1000 : Nat) : Int) = (g : Int) - (g : Int) * (e : Int) / 1000
  rw [mulc]
  omega
theorem sugar_is {x : Int × Int × Int} (p : pos3 x) (o : okL x = true) : ((Kzb6.sugar (nat3 x) : Nat) : Int) = sugarI (cleanI x.1 x.2.1) x.2.2 := by
  have c := clean_is p o
  unfold Kzb6.sugar sugarI
  rw [← c]
  obtain ⟨g, e, h⟩ := x
  obtain ⟨_, _, p3⟩ := p
  obtain ⟨h, rfl⟩ := Int.eq_ofNat_of_zero_le p3
  show ((Kzb6.clean _ * h / 10000 : Nat) : Int) = (Kzb6.clean _ : Int) * (h : Int) / 10000
  rw [mulc]
  omega
theorem cleanI_bd {x : Int × Int × Int} (p : pos3 x) (o : okL x = true) : 0 ≤ cleanI x.1 x.2.1 ∧ cleanI x.1 x.2.1 ≤ 50000 := by
  have c := clean_is p o
  have k : Kzb6.clean (nat3 x) ≤ x.1.toNat := Nat.sub_le _ _
  obtain ⟨o1, _, _⟩ := okL_iff.mp o
  have p1 := p.1
  omega
/-- s01 -/
def cleanAns (g e h : Int) : List Int := if okL (g, e, h) = true then [cleanI g e, sugarI (cleanI g e) h] else [-22]
theorem s01_is {g e h : Int} (p : pos3 (g, e, h)) : PyKzb6.clean g e h = cleanAns g e h := by
  unfold cleanAns PyKzb6.clean Kzb6Neutral.f
  show (Kzb6.answer (.clean g.toNat e.toNat h.toNat)).value :: Kzb6Neutral.ints (Kzb6.answer (.clean g.toNat e.toNat h.toNat)).nums = _
  have k : Kzb6.okLoad ⟨g.toNat, e.toNat, h.toNat⟩ = okL (g, e, h) := okLoad_is (x := (g, e, h))
  unfold Kzb6.answer
  simp only [k]
  by_cases o : okL (g, e, h) = true
  · rw [if_pos o, if_neg (by rw [o]; decide)]
    show ((Kzb6.clean (nat3 (g, e, h)) : Nat) : Int) :: [((Kzb6.sugar (nat3 (g, e, h)) : Nat) : Int)] = _
    rw [clean_is p o, sugar_is p o]
  · rw [if_neg o, if_pos (by simpa using o)]
    rfl
/-- s02 -/
def okT (b s : Int) : Bool := decide (b ≤ 10000) && decide (s ≤ 10)
theorem okT_iff {b s : Int} : okT b s = true ↔ b ≤ 10000 ∧ s ≤ 10 := by
  unfold okT
  simp only [Bool.and_eq_true, decide_eq_true_eq]
theorem okTerms_is {b s : Int} : Kzb6.okTerms ⟨b.toNat, s.toNat⟩ = okT b s := by
  apply Bool.eq_iff_iff.mpr
  rw [okT_iff]
  unfold Kzb6.okTerms
  simp only [Bool.and_eq_true, decide_eq_true_eq]
  omega
theorem price_is {b s h : Int} (hb : 0 ≤ b) (hs : 0 ≤ s) (hh : 0 ≤ h) : ((Kzb6.price ⟨b.toNat, s.toNat⟩ h.toNat : Nat) : Int) = priceI b s h := by
  obtain ⟨b, rfl⟩ := Int.eq_ofNat_of_zero_le hb
  obtain ⟨s, rfl⟩ := Int.eq_ofNat_of_zero_le hs
  obtain ⟨h, rfl⟩ := Int.eq_ofNat_of_zero_le hh
  show (((if 1600 ≤ h then b + s * (h - 1600) else b - s * (1600 - h)) : Nat) : Int) = (if (b : Int) + s * ((h : Int) - 1600) > 0 then (b : Int) + s * ((h : Int) - 1600) else 0)
  by_cases c : 1600 ≤ h
  · rw [if_pos c]
    obtain ⟨d, rfl⟩ := Nat.exists_eq_add_of_le c
    have e1 : ((1600 + d : Nat) : Int) - 1600 = (d : Int) := by omega
    have e2 : 1600 + d - 1600 = d := by omega
    rw [e1, e2, mulc]
    split <;> omega
  · rw [if_neg c]
    obtain ⟨d, e⟩ := Nat.exists_eq_add_of_le (Nat.le_of_not_le c)
    have e1 : (h : Int) - 1600 = -(d : Int) := by omega
    have e2 : 1600 - h = d := by omega
    rw [e1, e2, Int.mul_neg, mulc]
    split <;> omega
def priceAns (b s h : Int) : List Int := if okT b s = true ∧ h ≤ 2500 then [priceI b s h] else [-22]
theorem s02_is {b s h : Int} (hb : 0 ≤ b) (hs : 0 ≤ s) (hh : 0 ≤ h) : PyKzb6.price b s h = priceAns b s h := by
  unfold priceAns PyKzb6.price Kzb6Neutral.f
  show (Kzb6.answer (.price b.toNat s.toNat h.toNat)).value :: Kzb6Neutral.ints (Kzb6.answer (.price b.toNat s.toNat h.toNat)).nums = _
  unfold Kzb6.answer
  simp only [okTerms_is]
  by_cases o : okT b s = true ∧ h ≤ 2500
  · rw [if_pos o, if_neg (by rw [o.1]; intro z; rcases z with z | z; exact absurd z (by decide); omega)]
    show ((Kzb6.price ⟨b.toNat, s.toNat⟩ h.toNat : Nat) : Int) :: [] = _
    rw [price_is hb hs hh]
  · rw [if_neg o, if_pos]
    · rfl
    · by_cases o1 : okT b s = true
      · right
        have : ¬ h ≤ 2500 := fun z => o ⟨o1, z⟩
        omega
      · left
        simpa using o1
end Gp
namespace Gp
abbrev L3 := Int × Int × Int
def loadsI : List Int → List L3
  | a :: b :: c :: l => (a, b, c) :: loadsI l
  | _ => []
def goodI (ns : List Int) : Bool := (decide (ns.length % 3 = 0) && decide (ns.length ≤ 60)) && (loadsI ns).all okL
theorem loads_len : ∀ (n : Nat) (ns : List Int), ns.length = 3 * n → (loadsI ns).length = n
  | 0, ns, h => by
    have e : ns = [] := List.length_eq_zero_iff.mp (by omega)
    subst e
    rfl
  | n + 1, ns, h => by
    match ns, h with
    | a :: b :: c :: l, h =>
      have ih := loads_len n l (by simp only [List.length_cons] at h; omega)
      show (loadsI l).length + 1 = n + 1
      rw [ih]
    | [], h => simp at h
    | [_], h => simp at h; omega
    | [_, _], h => simp at h; omega
theorem loads_at : ∀ (n i : Nat) (ns : List Int), ns.length = 3 * n → i < n → ∃ a b c, (loadsI ns)[i]? = some (a, b, c) ∧ (ns.drop (3 * i)).take 3 = [a, b, c]
  | 0, i, ns, h, hi => absurd hi (Nat.not_lt_zero _)
  | n + 1, i, ns, h, hi => by
    match ns, h with
    | a :: b :: c :: l, h =>
      cases i with
      | zero => exact ⟨a, b, c, rfl, by simp⟩
      | succ i =>
        obtain ⟨x, y, z, h1, h2⟩ := loads_at n i l (by simp only [List.length_cons] at h; omega) (by omega)
        refine ⟨x, y, z, h1, ?_⟩
        rw [show 3 * (i + 1) = 3 * i + 3 from by omega]
        show (((l.drop (3 * i))).take 3) = _
        exact h2
    | [], h => simp at h
    | [_], h => simp at h; omega
    | [_, _], h => simp at h; omega
theorem loads_nat : ∀ (ns : List Int), Kzb6.loads (Kzb6Neutral.natsOf ns) = (loadsI ns).map nat3
  | [] => rfl
  | [_] => rfl
  | [_, _] => rfl
  | a :: b :: c :: l => by
    show (⟨a.toNat, b.toNat, c.toNat⟩ : Kzb6.Load) :: Kzb6.loads (Kzb6Neutral.natsOf l) = nat3 (a, b, c) :: (loadsI l).map nat3
    rw [loads_nat l]
    rfl
theorem loads_pos : ∀ (ns : List Int), (∀ x ∈ ns, 0 ≤ x) → ∀ y ∈ loadsI ns, pos3 y
  | [], _, y, hy => absurd hy (by simp [loadsI])
  | [_], _, y, hy => absurd hy (by simp [loadsI])
  | [_, _], _, y, hy => absurd hy (by simp [loadsI])
  | a :: b :: c :: l, h, y, hy => by
    rcases List.mem_cons.mp (show y ∈ (a, b, c) :: loadsI l from hy) with e | m
    · subst e
      exact ⟨h a (by simp), h b (by simp), h c (by simp)⟩
    · exact loads_pos l (fun x hx => h x (by simp [hx])) y m
theorem all_nat3 (l : List L3) : (l.map nat3).all Kzb6.okLoad = l.all okL := by
  rw [List.all_map]
  congr 1
  funext x
  exact okLoad_is
theorem good_is (ns : List Int) : Kzb6.good (Kzb6Neutral.natsOf ns) = goodI ns := by
  unfold Kzb6.good Kzb6.okLoads goodI Kzb6.most
  rw [loads_nat, all_nat3, List.length_map]
  have e : (Kzb6Neutral.natsOf ns).length = ns.length := by unfold Kzb6Neutral.natsOf; rw [List.length_map]
  rw [e]
  by_cases h : ns.length % 3 = 0
  · obtain ⟨n, hn⟩ : ∃ n, ns.length = 3 * n := ⟨ns.length / 3, by omega⟩
    rw [loads_len n ns hn, decide_eq_true h, Bool.true_and, Bool.true_and]
    congr 1
    apply decide_eq_decide.mpr
    omega
  · rw [decide_eq_false h, Bool.false_and, Bool.false_and, Bool.false_and]
/-! what is paid -/
def wI (left c : Int) : Int := if left < c then left else c
def paidI (w a p : Int) : Int := (w * p + a * p / 2) / 1000
def oneI (b s left : Int) (x : L3) : Int := paidI (wI left (cleanI x.1 x.2.1)) (cleanI x.1 x.2.1 - wI left (cleanI x.1 x.2.1)) (priceI b s x.2.2)
def stepI (left : Int) (x : L3) : Int := left - wI left (cleanI x.1 x.2.1)
def paysI (b s : Int) : Int → List L3 → List Int
  | _, [] => []
  | left, x :: l => oneI b s left x :: paysI b s (stepI left x) l
def leftI (left : Int) (l : List L3) : Int := l.foldl stepI left
theorem pays_snoc (b s : Int) : ∀ (l : List L3) (left : Int) (x : L3), paysI b s left (l ++ [x]) = paysI b s left l ++ [oneI b s (leftI left l) x]
  | [], left, x => rfl
  | y :: l, left, x => by
    show oneI b s left y :: paysI b s (stepI left y) (l ++ [x]) = oneI b s left y :: (paysI b s (stepI left y) l ++ [oneI b s (leftI (stepI left y) l) x])
    rw [pays_snoc b s l]
theorem left_snoc (l : List L3) (left : Int) (x : L3) : leftI left (l ++ [x]) = stepI (leftI left l) x := by
  unfold leftI
  rw [List.foldl_append]
  rfl
theorem pays_len (b s : Int) : ∀ (l : List L3) (left : Int), (paysI b s left l).length = l.length
  | [], _ => rfl
  | x :: l, left => by
    show (paysI b s (stepI left x) l).length + 1 = l.length + 1
    rw [pays_len b s l]
theorem step_bd {left : Int} {x : L3} (h : 0 ≤ left) : 0 ≤ stepI left x := by
  unfold stepI wI
  split <;> omega
theorem left_bd : ∀ (l : List L3) (left : Int), 0 ≤ left → 0 ≤ leftI left l
  | [], left, h => h
  | x :: l, left, h => left_bd l (stepI left x) (step_bd h)
theorem wI_bd {left c : Int} (h : 0 ≤ left) (hc : 0 ≤ c) (hc' : c ≤ 50000) : 0 ≤ wI left c ∧ wI left c ≤ 50000 ∧ 0 ≤ c - wI left c ∧ c - wI left c ≤ 50000 := by
  unfold wI
  split <;> omega
theorem payOne_is {b s left : Int} {x : L3} (hb : 0 ≤ b) (hs : 0 ≤ s) (hl : 0 ≤ left) (p : pos3 x) (o : okL x = true) :
    ((Kzb6.payOne ⟨b.toNat, s.toNat⟩ left.toNat (nat3 x) : Nat) : Int) = oneI b s left x := by
  have c := clean_is p o
  have pr := price_is hb hs p.2.2
  unfold oneI paidI
  rw [← c, ← pr]
  unfold Kzb6.payOne
  show (((min left.toNat (Kzb6.clean (nat3 x)) * Kzb6.price ⟨b.toNat, s.toNat⟩ x.2.2.toNat + (Kzb6.clean (nat3 x) - min left.toNat (Kzb6.clean (nat3 x))) * Kzb6.price ⟨b.toNat, s.toNat⟩ x.2.2.toNat / 2) / 1000 : Nat) : Int) = _
  generalize Kzb6.clean (nat3 x) = C
  generalize Kzb6.price ⟨b.toNat, s.toNat⟩ x.2.2.toNat = P
  obtain ⟨left, rfl⟩ := Int.eq_ofNat_of_zero_le hl
  have e : wI (left : Int) (C : Int) = ((min left C : Nat) : Int) := by
    unfold wI
    split <;> omega
  have e2 : (C : Int) - ((min left C : Nat) : Int) = ((C - min left C : Nat) : Int) := by omega
  rw [e, e2, mulc, mulc, Int.toNat_natCast]
  omega
theorem step_is {left : Int} {x : L3} (hl : 0 ≤ left) (p : pos3 x) (o : okL x = true) : (left.toNat - Kzb6.clean (nat3 x)) = (stepI left x).toNat := by
  have c := clean_is p o
  unfold stepI wI
  rw [← c]
  split <;> omega
theorem payOn_is {b s : Int} (hb : 0 ≤ b) (hs : 0 ≤ s) : ∀ (l : List L3) (left : Int), 0 ≤ left → (∀ x ∈ l, pos3 x) → (∀ x ∈ l, okL x = true) →
    Kzb6Neutral.ints (Kzb6.payOn ⟨b.toNat, s.toNat⟩ left.toNat (l.map nat3)) = paysI b s left l
  | [], _, _, _, _ => rfl
  | x :: l, left, h, p, o => by
    show ((Kzb6.payOne ⟨b.toNat, s.toNat⟩ left.toNat (nat3 x) : Nat) : Int) :: Kzb6Neutral.ints (Kzb6.payOn ⟨b.toNat, s.toNat⟩ (left.toNat - Kzb6.clean (nat3 x)) (l.map nat3)) = oneI b s left x :: paysI b s (stepI left x) l
    have px := p x (by simp)
    have ox := o x (by simp)
    rw [payOne_is hb hs h px ox, step_is h px ox, payOn_is hb hs l (stepI left x) (step_bd h) (fun y hy => p y (by simp [hy])) (fun y hy => o y (by simp [hy]))]
theorem foldl_add : ∀ (l : List Nat) (a : Nat), l.foldl (· + ·) a = a + l.sum
  | [], a => by simp
  | x :: l, a => by
    rw [List.foldl_cons, foldl_add l, List.sum_cons]
    omega
theorem sum_is (l : List Nat) : Kzb1.sum l = l.sum := by
  unfold Kzb1.sum
  rw [foldl_add]
  omega
theorem sum_ints : ∀ (l : List Nat), ((l.sum : Nat) : Int) = (Kzb6Neutral.ints l).sum
  | [] => rfl
  | x :: l => by
    show ((x :: l).sum : Int) = ((x : Int) :: Kzb6Neutral.ints l).sum
    rw [List.sum_cons, List.sum_cons, ← sum_ints l]
    omega
def payAns (b s q : Int) (ns : List Int) : List Int :=
  if goodI ns = true ∧ okT b s = true ∧ q ≤ 1000000 then (paysI b s q (loadsI ns)).sum :: paysI b s q (loadsI ns) else [-22]
theorem good_ok {ns : List Int} (g : goodI ns = true) : ∀ x ∈ loadsI ns, okL x = true := by
  unfold goodI at g
  rw [Bool.and_eq_true] at g
  exact List.all_eq_true.mp g.2
theorem s03_is {b s q : Int} {ns : List Int} (hb : 0 ≤ b) (hs : 0 ≤ s) (hq : 0 ≤ q) (hn : ∀ x ∈ ns, 0 ≤ x) : PyKzb6.pay b s q ns = payAns b s q ns := by
  unfold payAns PyKzb6.pay Kzb6Neutral.f
  show (Kzb6.answer (.pay b.toNat s.toNat q.toNat (Kzb6Neutral.natsOf ns))).value :: Kzb6Neutral.ints (Kzb6.answer (.pay b.toNat s.toNat q.toNat (Kzb6Neutral.natsOf ns))).nums = _
  unfold Kzb6.answer
  simp only [okTerms_is, good_is]
  by_cases o : goodI ns = true ∧ okT b s = true ∧ q ≤ 1000000
  · have n : ¬ (okT b s = false ∨ 1000000 < q.toNat ∨ goodI ns = false) := by
      rw [o.1, o.2.1]
      have := o.2.2
      intro z
      rcases z with z | z | z
      · exact absurd z (by decide)
      · omega
      · exact absurd z (by decide)
    rw [if_pos o, if_neg n]
    unfold Kzb6.pay
    have e := payOn_is hb hs (loadsI ns) q hq (loads_pos ns hn) (good_ok o.1)
    show ((Kzb1.sum (Kzb6.payOn ⟨b.toNat, s.toNat⟩ q.toNat (Kzb6.loads (Kzb6Neutral.natsOf ns))) : Nat) : Int) :: Kzb6Neutral.ints (Kzb6.payOn ⟨b.toNat, s.toNat⟩ q.toNat (Kzb6.loads (Kzb6Neutral.natsOf ns))) = _
    rw [sum_is, sum_ints, loads_nat, e]
  · rw [if_neg o, if_pos]
    · rfl
    · by_cases o1 : okT b s = true
      · by_cases o2 : q ≤ 1000000
        · right; right
          have : ¬ goodI ns = true := fun z => o ⟨z, o1, o2⟩
          simpa using this
        · right; left
          omega
      · left
        simpa using o1
/-! the mean -/
def cleansI (l : List L3) : List Int := l.map fun x => cleanI x.1 x.2.1
def sugarsI (l : List L3) : List Int := l.map fun x => sugarI (cleanI x.1 x.2.1) x.2.2
def meanI (l : List L3) : List Int :=
  if (cleansI l).sum = 0 then [0, (cleansI l).sum, (sugarsI l).sum] else [(sugarsI l).sum * 10000 / (cleansI l).sum, (cleansI l).sum, (sugarsI l).sum]
theorem cleans_is : ∀ (l : List L3), (∀ x ∈ l, pos3 x) → (∀ x ∈ l, okL x = true) → Kzb6Neutral.ints ((l.map nat3).map Kzb6.clean) = cleansI l
  | [], _, _ => rfl
  | x :: l, p, o => by
    show ((Kzb6.clean (nat3 x) : Nat) : Int) :: Kzb6Neutral.ints ((l.map nat3).map Kzb6.clean) = cleanI x.1 x.2.1 :: cleansI l
    rw [clean_is (p x (by simp)) (o x (by simp)), cleans_is l (fun y hy => p y (by simp [hy])) (fun y hy => o y (by simp [hy]))]
theorem sugars_is : ∀ (l : List L3), (∀ x ∈ l, pos3 x) → (∀ x ∈ l, okL x = true) → Kzb6Neutral.ints ((l.map nat3).map Kzb6.sugar) = sugarsI l
  | [], _, _ => rfl
  | x :: l, p, o => by
    show ((Kzb6.sugar (nat3 x) : Nat) : Int) :: Kzb6Neutral.ints ((l.map nat3).map Kzb6.sugar) = sugarI (cleanI x.1 x.2.1) x.2.2 :: sugarsI l
    rw [sugar_is (p x (by simp)) (o x (by simp)), sugars_is l (fun y hy => p y (by simp [hy])) (fun y hy => o y (by simp [hy]))]
def meanAns (ns : List Int) : List Int := if goodI ns = true then meanI (loadsI ns) else [-22]
theorem s04_is {ns : List Int} (hn : ∀ x ∈ ns, 0 ≤ x) : PyKzb6.mean ns = meanAns ns := by
  unfold meanAns PyKzb6.mean Kzb6Neutral.f
  show (Kzb6.answer (.mean (Kzb6Neutral.natsOf ns))).value :: Kzb6Neutral.ints (Kzb6.answer (.mean (Kzb6Neutral.natsOf ns))).nums = _
  unfold Kzb6.answer
  simp only [good_is]
  by_cases o : goodI ns = true
  · rw [if_pos o, if_neg (by rw [o]; decide)]
    have e1 := cleans_is (loadsI ns) (loads_pos ns hn) (good_ok o)
    have e2 := sugars_is (loadsI ns) (loads_pos ns hn) (good_ok o)
    unfold meanI Kzb6.mean
    simp only [loads_nat, sum_is]
    rw [← e1, ← e2, ← sum_ints, ← sum_ints]
    generalize (((loadsI ns).map nat3).map Kzb6.clean).sum = C
    generalize (((loadsI ns).map nat3).map Kzb6.sugar).sum = S
    by_cases z : C = 0
    · rw [if_pos z, if_pos (by omega)]
      rfl
    · rw [if_neg z, if_neg (by omega)]
      show ((S * 10000 / C : Nat) : Int) :: [((C : Nat) : Int), ((S : Nat) : Int)] = _
      rw [Int.natCast_ediv, Int.natCast_mul]
      rfl
  · rw [if_neg o, if_pos (by simpa using o)]
    rfl
/-- bounds for the mean: no more than twenty loads -/
theorem good_len {ns : List Int} (g : goodI ns = true) : ∃ n, ns.length = 3 * n ∧ n ≤ 20 ∧ (loadsI ns).length = n := by
  unfold goodI at g
  rw [Bool.and_eq_true, Bool.and_eq_true, decide_eq_true_eq, decide_eq_true_eq] at g
  refine ⟨ns.length / 3, by omega, by omega, loads_len _ _ (by omega)⟩
theorem sum_bd (M : Int) : ∀ (l : List Int), (∀ x ∈ l, 0 ≤ x ∧ x ≤ M) → 0 ≤ l.sum ∧ l.sum ≤ M * l.length
  | [], _ => by simp
  | x :: l, h => by
    have ih := sum_bd M l fun y hy => h y (by simp [hy])
    have hx := h x (by simp)
    rw [List.sum_cons, List.length_cons]
    have e : M * ((l.length + 1 : Nat) : Int) = M * l.length + M := by
      rw [Int.natCast_add, Int.mul_add]
      simp
    rw [e]
    omega
theorem sugarI_bd {c h : Int} (hc : 0 ≤ c) (hc' : c ≤ 50000) (hh : 0 ≤ h) (hh' : h ≤ 2500) : 0 ≤ sugarI c h ∧ sugarI c h ≤ 12500 := by
  unfold sugarI
  have h1 : c * h ≤ 50000 * 2500 := Int.mul_le_mul hc' hh' hh (by decide)
  have h0 : 0 ≤ c * h := Int.mul_nonneg hc hh
  omega
end Gp
namespace Gp
/-! shares. c cents, l the parts (naturals), n = l.length -/
/-- places that are picked: p; what stands in found and rests -/
def foundI (c : Nat) (l : List Nat) (p : Nat → Bool) : List Int := (List.range l.length).map fun i => (((Kzb6.parts c l).getD i 0 + if p i then 1 else 0 : Nat) : Int)
def restsI (c : Nat) (l : List Nat) (p : Nat → Bool) : List Int := (List.range l.length).map fun i => if p i then -1 else ((Kzb6.rest c l i : Nat) : Int)
theorem map_set {f : Nat → Int} {n k : Nat} {v : Int} : ((List.range n).map f).set k v = (List.range n).map fun i => if i = k then v else f i := by
  apply List.ext_getElem
  · simp
  · intro i h1 h2
    rw [List.getElem_set]
    simp only [List.getElem_map, List.getElem_range]
    by_cases e : k = i
    · rw [if_pos e, if_pos e.symm]
    · rw [if_neg e, if_neg (fun z => e z.symm)]
def put (p : Nat → Bool) (k : Nat) : Nat → Bool := fun i => p i || decide (i = k)
theorem found_put {c : Nat} {l : List Nat} {p : Nat → Bool} {k : Nat} (hk : p k = false) {z : Int} (hz : (foundI c l p)[k]? = some z) : (foundI c l p).set k (z + 1) = foundI c l (put p k) := by
  unfold foundI at hz ⊢
  rw [map_set]
  apply List.map_congr_left
  intro i hi
  have hi' : i < l.length := List.mem_range.mp hi
  by_cases e : i = k
  · subst e
    rw [if_pos rfl]
    rw [List.getElem?_map, List.getElem?_range hi'] at hz
    have e2 : (((Kzb6.parts c l).getD i 0 + if p i then 1 else 0 : Nat) : Int) = z := Option.some.inj hz
    rw [← e2, hk]
    simp only [put, hk, decide_true, Bool.or_true, if_true, Bool.false_eq_true, if_false]
    omega
  · rw [if_neg e]
    simp only [put, e, decide_false, Bool.or_false]
theorem rests_put {c : Nat} {l : List Nat} {p : Nat → Bool} {k : Nat} : (restsI c l p).set k (-1) = restsI c l (put p k) := by
  unfold restsI
  rw [map_set]
  apply List.map_congr_left
  intro i hi
  by_cases e : i = k
  · subst e
    rw [if_pos rfl]
    simp only [put, decide_true, Bool.or_true, if_true]
  · rw [if_neg e]
    simp only [put, e, decide_false, Bool.or_false]
theorem rests_getD {c : Nat} {l : List Nat} {p : Nat → Bool} {i : Nat} (hi : i < l.length) : (restsI c l p).getD i 0 = if p i then -1 else ((Kzb6.rest c l i : Nat) : Int) := by
  unfold restsI
  rw [List.getD_eq_getElem?_getD, List.getElem?_map, List.getElem?_range hi]
  rfl
theorem count_put {p : Nat → Bool} {k : Nat} (hk : p k = false) : ∀ n, (List.range n).countP (put p k) = (List.range n).countP p + if k < n then 1 else 0
  | 0 => by simp
  | n + 1 => by
    have ih := count_put hk n
    rw [List.range_succ, List.countP_append, List.countP_append, ih, List.countP_singleton, List.countP_singleton]
    by_cases e : n = k
    · subst e
      rw [hk]
      simp [put]
    · have q : put p k n = p n := by simp [put, e]
      rw [q]
      by_cases h : k < n
      · rw [if_pos h, if_pos (show k < n + 1 by omega)]
        omega
      · rw [if_neg h, if_neg (show ¬ k < n + 1 by omega)]
        omega
/-- the first of the greatest -/
def IsFg (r : List Int) (k : Nat) : Prop := k < r.length ∧ ∀ j, j < r.length → r.getD j 0 ≤ r.getD k 0 ∧ (j < k → r.getD j 0 < r.getD k 0)
/-- picked ones stand ahead of all others -/
structure Top (c : Nat) (l : List Nat) (t : Nat) (p : Nat → Bool) : Prop where
  num : (List.range l.length).countP p = t
  top : ∀ i j, i < l.length → j < l.length → p i = true → p j = false → Kzb6.aheadOf c l i j = true
theorem ahead_iff {c : Nat} {l : List Nat} {i j : Nat} : Kzb6.aheadOf c l i j = true ↔ Kzb6.rest c l j < Kzb6.rest c l i ∨ (Kzb6.rest c l i = Kzb6.rest c l j ∧ i < j) := by
  unfold Kzb6.aheadOf
  simp only [Bool.or_eq_true, Bool.and_eq_true, decide_eq_true_eq, beq_iff_eq]
theorem top_zero (c : Nat) (l : List Nat) : Top c l 0 fun _ => false := ⟨by simp, fun i j _ _ h => nomatch h⟩
theorem unpicked {l : List Nat} {t : Nat} {p : Nat → Bool} (h : (List.range l.length).countP p = t) (ht : t < l.length) : ∃ j, j < l.length ∧ p j = false := by
  apply Classical.byContradiction
  intro no
  have e : (List.range l.length).countP p = (List.range l.length).length := List.countP_eq_length.mpr fun j hj => by
    cases q : p j with
    | true => rfl
    | false => exact absurd ⟨j, List.mem_range.mp hj, q⟩ no
  rw [List.length_range] at e
  omega
theorem fg_new {c : Nat} {l : List Nat} {t : Nat} {p : Nat → Bool} {k : Nat} (T : Top c l t p) (ht : t < l.length) (f : IsFg (restsI c l p) k) : k < l.length ∧ p k = false := by
  have el : (restsI c l p).length = l.length := by unfold restsI; simp
  obtain ⟨hk, hf⟩ := f
  rw [el] at hk
  refine ⟨hk, ?_⟩
  obtain ⟨j, hj, pj⟩ := unpicked T.num ht
  have q := (hf j (by rw [el]; exact hj)).1
  rw [rests_getD hj, rests_getD hk, pj] at q
  cases e : p k with
  | false => rfl
  | true =>
    rw [e] at q
    simp only [Bool.false_eq_true, if_false, if_true] at q
    omega
theorem top_put {c : Nat} {l : List Nat} {t : Nat} {p : Nat → Bool} {k : Nat} (T : Top c l t p) (ht : t < l.length) (f : IsFg (restsI c l p) k) : Top c l (t + 1) (put p k) := by
  obtain ⟨hk, pk⟩ := fg_new T ht f
  have el : (restsI c l p).length = l.length := by unfold restsI; simp
  refine ⟨?_, fun i j hi hj pi pj => ?_⟩
  · rw [count_put pk, T.num, if_pos hk]
  · have pj' : p j = false ∧ j ≠ k := by
      unfold put at pj
      simpa using pj
    cases e : p i with
    | true => exact T.top i j hi hj e pj'.1
    | false =>
      have ik : i = k := by
        unfold put at pi
        simpa [e] using pi
      subst ik
      obtain ⟨h1, h2⟩ := f.2 j (by rw [el]; exact hj)
      rw [rests_getD hj, rests_getD hk, pj'.1, pk] at h1 h2
      simp only [Bool.false_eq_true, if_false] at h1 h2
      refine ahead_iff.mpr ?_
      by_cases c1 : Kzb6.rest c l j < Kzb6.rest c l i
      · exact .inl c1
      · refine .inr ⟨by omega, ?_⟩
        have := pj'.2
        apply Classical.byContradiction
        intro z
        have := h2 (by omega)
        omega
theorem top_rank {c : Nat} {l : List Nat} {t : Nat} {p : Nat → Bool} (T : Top c l t p) {i : Nat} (hi : i < l.length) : p i = decide (Kzb6.rank c l i < t) := by
  have er : Kzb6.rank c l i = (List.range l.length).countP fun j => Kzb6.aheadOf c l j i := by
    unfold Kzb6.rank
    rw [List.countP_eq_length_filter]
  cases e : p i with
  | true =>
    symm
    apply decide_eq_true
    rw [er, ← T.num]
    -- those ahead of i are picked, and i is picked, too
    let q : Nat → Bool := fun j => Kzb6.aheadOf c l j i
    have qi : q i = false := by
      cases z : q i with
      | false => rfl
      | true =>
        have := ahead_iff.mp (show Kzb6.aheadOf c l i i = true from z)
        omega
    have h1 := count_put qi l.length
    rw [if_pos hi] at h1
    have h2 : (List.range l.length).countP (put q i) ≤ (List.range l.length).countP p := by
      apply List.countP_mono_left
      intro j hj hq
      have hj' : j < l.length := List.mem_range.mp hj
      unfold put at hq
      cases z : p j with
      | true => rfl
      | false =>
        have a1 := ahead_iff.mp (T.top i j hi hj' e z)
        rw [Bool.or_eq_true] at hq
        rcases hq with hq | hq
        · have a2 := ahead_iff.mp (show Kzb6.aheadOf c l j i = true from hq)
          omega
        · have : j = i := by simpa using hq
          subst this
          rw [e] at z
          cases z
    show (List.range l.length).countP q < _
    omega
  | false =>
    symm
    apply decide_eq_false
    rw [er, ← T.num]
    have h2 : (List.range l.length).countP p ≤ (List.range l.length).countP fun j => Kzb6.aheadOf c l j i := by
      apply List.countP_mono_left
      intro j hj hq
      exact T.top j i (List.mem_range.mp hj) hi hq e
    omega
/-! how many cents are left -/
theorem sum_map_add (f g : Nat → Nat) : ∀ l : List Nat, (l.map fun x => f x + g x).sum = (l.map f).sum + (l.map g).sum
  | [] => rfl
  | x :: l => by
    simp only [List.map_cons, List.sum_cons, sum_map_add f g l]
    omega
theorem sum_map_mul (a : Nat) (f : Nat → Nat) : ∀ l : List Nat, (l.map fun x => a * f x).sum = a * (l.map f).sum
  | [] => by simp
  | x :: l => by
    simp only [List.map_cons, List.sum_cons, sum_map_mul a f l, Nat.mul_add]
theorem sum_map_lt (a : Nat) (f : Nat → Nat) : ∀ l : List Nat, (∀ x ∈ l, f x < a) → (l.map f).sum ≤ a * l.length
  | [], _ => by simp
  | x :: l, h => by
    have := sum_map_lt a f l fun y hy => h y (by simp [hy])
    have := h x (by simp)
    simp only [List.map_cons, List.sum_cons, List.length_cons, Nat.mul_add, Nat.mul_one]
    omega
theorem over_bd {c : Nat} {l : List Nat} (hl : l.sum ≠ 0) : (l.map fun x => c * x / l.sum).sum ≤ c ∧ c - (l.map fun x => c * x / l.sum).sum ≤ l.length := by
  have h0 : 0 < l.sum := by omega
  have e1 : (l.map fun x => c * x).sum = c * l.sum := by
    have := sum_map_mul c (fun x => x) l
    simpa using this
  have e2 : (l.map fun x => c * x) = l.map fun x => l.sum * (c * x / l.sum) + c * x % l.sum := by
    apply List.map_congr_left
    intro x _
    exact (Nat.div_add_mod (c * x) l.sum).symm
  rw [e2, sum_map_add (fun x => l.sum * (c * x / l.sum)) (fun x => c * x % l.sum), sum_map_mul l.sum (fun x => c * x / l.sum)] at e1
  have h3 := sum_map_lt l.sum (fun x => c * x % l.sum) l fun x _ => Nat.mod_lt _ h0
  generalize (l.map fun x => c * x / l.sum).sum = q at e1 ⊢
  generalize (l.map fun x => c * x % l.sum).sum = r at e1 h3
  generalize l.sum = s at e1 h3 h0
  rw [Nat.mul_comm c s] at e1
  constructor
  · exact Nat.le_of_mul_le_mul_left (c := s) (show s * q ≤ s * c by omega) h0
  · exact Nat.le_of_mul_le_mul_left (c := s) (show s * (c - q) ≤ s * l.length by rw [Nat.mul_sub]; omega) h0
theorem parts_is {c : Nat} {l : List Nat} (hl : l.sum ≠ 0) : Kzb6.parts c l = l.map fun x => c * x / l.sum := by
  unfold Kzb6.parts
  simp only [sum_is]
  rw [if_neg hl]
theorem rest_is {c : Nat} {l : List Nat} (hl : l.sum ≠ 0) (i : Nat) : Kzb6.rest c l i = c * l.getD i 0 % l.sum := by
  unfold Kzb6.rest
  simp only [sum_is]
  rw [if_neg hl]
theorem over_is {c : Nat} {l : List Nat} (hl : l.sum ≠ 0) : Kzb6.over c l = c - (l.map fun x => c * x / l.sum).sum := by
  unfold Kzb6.over
  simp only [sum_is]
  rw [if_neg hl, parts_is hl]
/-- the comprehensions' lists are those of nobody picked -/
theorem found_zero {c : Nat} {l : List Nat} (hl : l.sum ≠ 0) : l.map (fun x : Nat => (x : Int) * (c : Int) / ((l.sum : Nat) : Int)) = foundI c l fun _ => false := by
  unfold foundI
  rw [parts_is hl]
  apply List.ext_getElem
  · simp
  · intro i h1 h2
    have hi : i < l.length := by simpa using h1
    simp only [List.getElem_map, List.getElem_range, List.getD_eq_getElem?_getD, List.getElem?_map, List.getElem?_eq_getElem hi, Option.map_some, Option.getD_some, Bool.false_eq_true, if_false, Nat.add_zero]
    rw [mulc, Nat.mul_comm, Int.natCast_ediv]
theorem rests_zero {c : Nat} {l : List Nat} (hl : l.sum ≠ 0) : l.map (fun x : Nat => (x : Int) * (c : Int) % ((l.sum : Nat) : Int)) = restsI c l fun _ => false := by
  unfold restsI
  apply List.ext_getElem
  · simp
  · intro i h1 h2
    have hi : i < l.length := by simpa using h1
    simp only [List.getElem_map, List.getElem_range, Bool.false_eq_true, if_false]
    rw [rest_is hl, List.getD_eq_getElem?_getD, List.getElem?_eq_getElem hi, Option.getD_some, mulc, Nat.mul_comm, Int.natCast_emod]
theorem found_sum {c : Nat} {l : List Nat} (hl : l.sum ≠ 0) : (c : Int) - (foundI c l fun _ => false).sum = ((Kzb6.over c l : Nat) : Int) := by
  have e : foundI c l (fun _ => false) = Kzb6Neutral.ints (l.map fun x => c * x / l.sum) := by
    rw [← found_zero hl]
    unfold Kzb6Neutral.ints
    rw [List.map_map]
    apply List.map_congr_left
    intro x _
    show (x : Int) * (c : Int) / ((l.sum : Nat) : Int) = ((c * x / l.sum : Nat) : Int)
    rw [mulc, Nat.mul_comm, Int.natCast_ediv]
  have b := over_bd (c := c) hl
  rw [e, ← sum_ints, over_is hl]
  omega
theorem over_le {c : Nat} {l : List Nat} (hl : l.sum ≠ 0) : Kzb6.over c l ≤ l.length := by
  rw [over_is hl]
  exact (over_bd hl).2
/-- what shares_of gives -/
def sharesI (c : Nat) (l : List Nat) : List Int := Kzb6Neutral.ints (Kzb6.share c l)
theorem shares_end {c : Nat} {l : List Nat} {p : Nat → Bool} (T : Top c l (Kzb6.over c l) p) : foundI c l p = sharesI c l := by
  unfold foundI sharesI Kzb6.share Kzb6Neutral.ints
  rw [List.map_map]
  apply List.map_congr_left
  intro i hi
  have := top_rank T (List.mem_range.mp hi)
  show _ = (((Kzb6.parts c l).getD i 0 + if Kzb6.rank c l i < Kzb6.over c l then 1 else 0 : Nat) : Int)
  rw [this]
  simp only [decide_eq_true_eq]
theorem shares_none {c : Nat} {l : List Nat} (hl : l.sum = 0) : l.map (fun _ => (0 : Int)) = sharesI c l := by
  unfold sharesI Kzb6.share Kzb6Neutral.ints Kzb6.over Kzb6.parts
  simp only [sum_is]
  rw [if_pos hl, if_pos hl, List.map_map]
  apply List.ext_getElem
  · simp
  · intro i h1 h2
    have hi : i < l.length := by simpa using h1
    simp [hi]
def okP (ns : List Int) : Bool := ns.all fun x => decide (x ≤ 1000000)
def shareAns (n : Int) (ns : List Int) : List Int :=
  if n ≤ 100000000 ∧ (ns.length : Int) ≤ 20 ∧ okP ns = true then (ns.length : Int) :: sharesI n.toNat (Kzb6Neutral.natsOf ns) else [-22]
theorem okParts_is {ns : List Int} : Kzb6.okParts (Kzb6Neutral.natsOf ns) = true ↔ (ns.length : Int) ≤ 20 ∧ okP ns = true := by
  unfold Kzb6.okParts okP Kzb6Neutral.natsOf Kzb6.most
  rw [Bool.and_eq_true, decide_eq_true_eq, List.length_map, List.all_map]
  have e : ((fun x => decide (x ≤ 1000000)) ∘ Int.toNat) = fun x : Int => decide (x ≤ 1000000) := by
    funext x
    show decide (x.toNat ≤ 1000000) = decide (x ≤ 1000000)
    apply decide_eq_decide.mpr
    omega
  rw [e]
  constructor
  · intro h
    exact ⟨by omega, h.2⟩
  · intro h
    exact ⟨by omega, h.2⟩
theorem s05_is {n : Int} {ns : List Int} : PyKzb6.share n ns = shareAns n ns := by
  unfold shareAns PyKzb6.share Kzb6Neutral.f
  show (Kzb6.answer (.share n.toNat (Kzb6Neutral.natsOf ns))).value :: Kzb6Neutral.ints (Kzb6.answer (.share n.toNat (Kzb6Neutral.natsOf ns))).nums = _
  unfold Kzb6.answer
  by_cases o : n ≤ 100000000 ∧ (ns.length : Int) ≤ 20 ∧ okP ns = true
  · have q := okParts_is.mpr o.2
    have h1 := o.1
    simp only
    rw [if_pos o, if_neg (by rw [q]; intro z; rcases z with z | z; omega; exact absurd z (by decide))]
    show (((Kzb6Neutral.natsOf ns).length : Nat) : Int) :: _ = _
    unfold Kzb6Neutral.natsOf
    rw [List.length_map]
    rfl
  · simp only
    rw [if_neg o, if_pos]
    · rfl
    · by_cases o1 : n ≤ 100000000
      · right
        have : ¬ Kzb6.okParts (Kzb6Neutral.natsOf ns) = true := fun z => o ⟨o1, okParts_is.mp z⟩
        simpa using this
      · left
        omega
theorem nats_ints : ∀ (ns : List Int), (∀ x ∈ ns, 0 ≤ x) → (Kzb6Neutral.natsOf ns).map (fun x : Nat => (x : Int)) = ns
  | [], _ => rfl
  | x :: l, h => by
    have hx := h x (by simp)
    show ((x.toNat : Nat) : Int) :: (Kzb6Neutral.natsOf l).map _ = x :: l
    rw [nats_ints l fun y hy => h y (by simp [hy])]
    congr 1
    omega
end Gp
namespace Gp
open PySem PySem.Spec PyProof.Rows L2
open PySem.W (Codec)
def topS (i : Nat) : Stmt := PySem.Challenge.pw_growerspaid_s05_share.main.body.getD i (.Pass ⟨0, 0, 0, 0⟩)
abbrev sInit : Stmt := inClass (topS 5) 0
abbrev s_must : Stmt := topS 6
abbrev s_look_at_parts : Stmt := topS 7
abbrev s_first_greatest : Stmt := topS 9
abbrev s_shares_of : Stmt := topS 10
abbrev s_share : Stmt := topS 12
/-! ### defs, constants; the refusal -/
/-- a def of the top: its text, its name, its binding -/
structure Df (K : PySem.W.Frag) (mg : Str → Option Value) (x : Str) (st : Stmt) (ps : List Str) (f : Addr) (fd : FuncData) : Prop where
  F : Fun K x x st f fd
  g : mg x = some (.ref f)
  b : Binds K fd ps []
/-- a constant of the top -/
def Ct (mg : Str → Option Value) (x : Str) (v : Int) : Prop := ∃ t, mg x = some (.int v t)
theorem pe_ct {X : Cx} {x : Str} {v : Int} {pos : Pos} (c : Ct X.mg x v) (hg : Gl X x := by rfl) (hd : (x == ("__debug__" : Str)) = false := by decide) : PE X (.Name x pos) (tC (.int v)) := by
  obtain ⟨t, h⟩ := c
  exact pe_glob hg h ⟨_, rfl⟩ hd
structure RefT (K : PySem.W.Frag) (mg : Str → Option Value) (C fI : Addr) : Prop where
  gC : mg "Refused" = some (.ref C)
  oex : OexC K C
  xf : XfC K C
  noN : PySem.W.findIn K (.ref C) "number" = some none
  iC : PySem.W.findIn K (.ref C) "__init__" = some (some (.ref fI))
  tI : PySem.W.typeIn K (.ref fI) = some (.type "function")
  te : PySem.W.exmOne K (.ref C) (.ref C) = some true
  mOut : Ct mg "OUT_OF_RANGE" (-22)
/-- the own dict of a refusal -/
abbrev xN : HO := .xd [(("number" : Str), .int (-22))]
theorem lkN {v : V} : List.lookup ("number" : Str) [(("number" : Str), v)] = some v := by simp [List.lookup]
theorem raised_heap {H : Hp} {a d C : Addr} {fs : List (Str × V)} (ha : H a = none) (ne : d ≠ a) :
    upd (del (upd (upd (upd H a (exo a C none)) d (exd d fs)) a (exo a C (some d))) a) d (.xd fs) = upd H d (.xd fs) := by
  funext b
  by_cases h : b = d
  · rw [h, upd_same, upd_same]
  · rw [upd_ne h, upd_ne h]
    by_cases h2 : b = a
    · rw [h2, del_same, ha]
    · rw [del_ne h2, upd_ne h2, upd_ne h, upd_ne h2]
theorem same_new {H : Hp} {d : Addr} {o : HO} (h : H d = none) : Same H (upd H d o) := fun b u e => by
  rw [upd_ne (ne_of_none e h)]
  exact e
theorem line_small {n : Nat} (h : n ≤ 1000) : n ≤ sizeLine := Nat.le_of_lt (small1000 h)
def spInit (C : Addr) : Sp := fun vs H Q _ => ∃ (a : Addr) (v : V), vs = [.ref a, v] ∧ H a = some (exo a C none) ∧
  ∀ dx, H dx = none → dx ≠ a → Q .non (upd (upd H dx (exd dx [(("number" : Str), v)])) a (exo a C (some dx)))
section
variable {P : Program} {w : World} {K : PySem.W.Frag} {mg : Str → Option Value} {base : Heap} {C fI : Addr}
theorem scInit : FnScope ["self", "number"] ["self", "number"] (defScope sInit) := ⟨rfl, rfl, rfl, by decide +kernel, rfl, by decide +kernel, by decide +kernel⟩
theorem ok_init {f : Addr} {fd : FuncData} (F : Fun K "__init__" "Refused.__init__" sInit f fd) (R : RefT K mg C fI) : FnOk P w K mg base CX0 1 f fd ["self", "number"] (spInit C) := by
  refine F.ok scInit (fun vs H Q E h => ?_) (fun cdv A outer s H vs Q E hr h => ⟨_, pss_one (ps_ost (pv 0) (pv 1)), ?_⟩)
  · obtain ⟨a, v, rfl, _⟩ := h
    rfl
  · obtain ⟨a, v, rfl, ha, k⟩ := h
    exact ⟨_, rfl, _, rfl, a, C, rfl, R.oex, R.noN, .inl ⟨ha, fun dx n ne => k dx n ne⟩⟩
end
/-! ### must -/
def spMust (C : Addr) : Sp := fun vs H Q E => ∃ b : Bool, vs = [.bl b] ∧ (b = false → ∀ d : Addr, H d = none → E (.ref C) (some d) (upd H d xN)) ∧ (b = true → Q .non H)
section
variable {P : Program} {w : World} {K : PySem.W.Frag} {mg : Str → Option Value} {base : Heap} {C fI : Addr}
theorem scMust : FnScope ["so"] ["so"] (defScope s_must) := ⟨rfl, rfl, rfl, by decide +kernel, rfl, by decide +kernel, by decide +kernel⟩
theorem ok_must {f : Addr} {fd fdI : FuncData} (D : Df K mg "must" s_must ["so"] f fd) (R : RefT K mg C fI) (FI : Fun K "__init__" "Refused.__init__" sInit fI fdI) (bI : Binds K fdI ["self", "number"] []) :
    FnOk P w K mg base (L2.CX P w) 3 f fd ["so"] (spMust C) := by
  refine D.F.okX scMust (fun vs H Q E h => ?_) (fun cdv A outer s H vs Q E hr h => ⟨_, pss_one (ps_if (pt_not (pt_val (pv 0)))
    (pss_one (ps_raise rfl (takes_of rfl rfl rfl rfl) (pmk_oex R.oex R.iC R.tI (ok_init FI R) hr bI .nil pass0 rfl R.gC (pa_cons (pe_ct R.mOut) pa_nil)))) pss_nil), ?_⟩)
  · obtain ⟨b, rfl, _⟩ := h
    rfl
  · obtain ⟨b, rfl, kF, kT⟩ := h
    refine ⟨_, rfl, b, rfl, ?_⟩
    cases b with
    | true => exact iteF (kT rfl)
    | false =>
      refine iteT ⟨by show 1 ≤ 1000; decide, fun a ha => ⟨a, .int (-22), rfl, upd_same, fun d n ne => ⟨rfl, d, [(("number" : Str), .int (-22))], upd_same, ?_, ?_, ?_⟩⟩⟩
      · rw [upd_ne ne, upd_same]
      · rw [upd_ne ne] at n
        exact n
      · rw [raised_heap ha ne]
        rw [upd_ne ne] at n
        exact kF rfl d n
end
/-! ### look_at_parts -/
/-- a store at an address that was free keeps what stood -/
theorem same_upd {H H' : Hp} {D : Addr} {o : HO} (hD : H D = none) (s : Same H H') : Same H (upd H' D o) := fun b u e => by
  rw [upd_ne (ne_of_none e hD)]
  exact s _ _ e
theorem take_more {α : Type} {l : List α} {i : Nat} {x : α} (h : l[i]? = some x) : l.take (i + 1) = l.take i ++ [x] := by
  rw [List.take_add_one, h]
  rfl
/-- the i-th of a list of ints -/
theorem int_at {ns : List Int} {i : Nat} {x : V} (h : (ns.map V.int)[i]? = some x) : ∃ z, ns[i]? = some z ∧ x = .int z := by
  rw [List.getElem?_map] at h
  cases e : ns[i]? with
  | none =>
    rw [e] at h
    cases h
  | some z =>
    rw [e] at h
    exact ⟨z, rfl, (Option.some.inj h).symm⟩
theorem map_take {β : Type} {ns : List Int} {i : Nat} {z : Int} (f : Int → β) (g : β → V) (h : ns[i]? = some z) : ((ns.map f).take (i + 1)).map g = ((ns.map f).take i).map g ++ [g (f z)] := by
  rw [take_more (l := ns.map f) (x := f z) (by rw [List.getElem?_map, h]; rfl), List.map_append]
  rfl
theorem map_take_len {β : Type} {ns : List Int} {i : Nat} (f : Int → β) (g : β → V) (h : ns.length ≤ 20) : (((ns.map f).take i).map g).length < sizeLine := by
  apply small1000
  rw [List.length_map, List.length_take, List.length_map]
  omega
theorem map_take_all {β : Type} (ns : List Int) (f : Int → β) (g : β → V) : (((ns.map f).take (ns.map V.int).length).map g) = (ns.map f).map g := by
  rw [List.take_of_length_le (by rw [List.length_map, List.length_map]; exact Nat.le_refl _)]
def spParts (C : Addr) (K : PySem.W.Frag) : Sp := fun vs H Q E => ∃ (a : Addr) (ns : List Int), vs = [.ref a] ∧ SqL K H a (ns.map V.int) ∧
  (¬ ((ns.length : Int) ≤ 20 ∧ okP ns = true) → ∀ (H' : Hp) (d : Addr), H' d = some xN → E (.ref C) (some d) H') ∧
  ((ns.length : Int) ≤ 20 ∧ okP ns = true → ∀ H' : Hp, Same H H' → Q .non H')
section
variable {P : Program} {w : World} {K : PySem.W.Frag} {mg : Str → Option Value} {base : Heap} {C fI : Addr}
theorem scParts : FnScope ["parts", "part"] ["parts"] (defScope s_look_at_parts) := ⟨rfl, rfl, rfl, by decide +kernel, rfl, by decide +kernel, by decide +kernel⟩
theorem ok_parts {f fM : Addr} {fd fdM : FuncData} (D : Df K mg "look_at_parts" s_look_at_parts ["parts"] f fd)
    (DM : Df K mg "must" s_must ["so"] fM fdM) (GM : FnOk P w K mg base (L2.CX P w) 3 fM fdM ["so"] (spMust C))
    (cN : Ct mg "MOST_PARTS" 20) (cP : Ct mg "MOST_PART" 1000000) (ml : mg "len" = none) (ma : mg "all" = none) : FnOk P w K mg base (L2.CX P w) 4 f fd ["parts"] (spParts C K) := by
  refine D.F.okX scParts (fun vs H Q E h => ?_) (fun cdv A outer s H vs Q E hr h => ⟨_,
    pss_one (ps_expr (pe_callS GM hr rfl DM.g DM.F.kp DM.b (fun σ => passAt (takes_of rfl rfl rfl rfl) σ)
      (pa_cons (pe_and (pe_cmp (pc_le (pe_callB call_len_seq (by rfl) ml PySem.boot_len (pa_cons (pv 0) pa_nil)) (pe_ct cN)))
        (pe_one (pe_callB (cr_all rfl) (by rfl) ma (by decide +kernel) (pa_cons (pe_lc (own := [("part", 1)]) (g := gName 1) (tt := tYes) (by rfl) scParts.nd (pi_list (pv 0))
          (blkOk_by (N := ["parts", "part"]) (sc := defScope s_look_at_parts) (by decide +kernel))
          (fun _ _ _ _ _ => by exact (pg_name (i := 1) scParts.nd rfl (Or.inl rfl)))
          (fun _ _ _ _ _ => pts_nil) (fun _ _ _ _ _ => by exact (pe_cmp (pc_le (pv 1) (pe_ct cP))))) pa_nil)))) pa_nil))), ?_⟩)
  · obtain ⟨a, ns, rfl, _⟩ := h
    rfl
  · obtain ⟨a, ns, rfl, hS, kF, kT⟩ := h
    have el : (((ns.map V.int).length : Nat) : Int) = (ns.length : Int) := by rw [List.length_map]
    refine ⟨_, rfl, a, _, rfl, .inl hS, _, 20, rfl, rfl, _, rfl, ?_⟩
    refine ite2 (fun (h1 : decide ((((ns.map V.int).length : Nat) : Int) ≤ 20) = true) => ?_) (fun (h1 : ¬ decide ((((ns.map V.int).length : Nat) : Int) ≤ 20) = true) => ?_)
    · have q1 := of_decide_eq_true h1
      rw [el] at q1
      refine ⟨_, rfl, a, rfl, ⟨_, hS⟩, fun D hD => lc_list (K := K) (a := a) (xs := ns.map V.int) (fun i H' => Same H H' ∧ H' D = some (.lst (((ns.map fun x => decide (x ≤ 1000000)).take i).map V.bl)))
        ⟨same_new hD, upd_same⟩ (fun i H' _ z => z.1.seq hS) ?_ ?_⟩
      · rintro i x H' hx ⟨sm, hd⟩
        obtain ⟨z, hz, rfl⟩ := int_at hx
        refine ⟨rfl, _, rfl, z, 1000000, rfl, rfl, _, hd, map_take_len _ _ (by omega), same_upd hD sm, ?_⟩
        rw [upd_same]
        exact congrArg (fun z => some (HO.lst z)) (map_take (fun x => decide (x ≤ 1000000)) V.bl hz).symm
      · rintro H' ⟨sm, hd⟩
        rw [map_take_all] at hd
        have ea : (ns.map fun x => decide (x ≤ 1000000)).all id = okP ns := by
          unfold okP
          rw [List.all_map]
          rfl
        refine ⟨D, _, rfl, SqL.of hd, _, rfl, fun o d _ => kF (fun z => ?_) _ d upd_same, fun o => kT ⟨q1, ?_⟩ H' sm⟩
        · rw [ea, z.2] at o
          cases o
        · rw [ea] at o
          exact o
    · refine ⟨_, rfl, fun _ d _ => kF (fun z => ?_) _ d upd_same, fun z => Bool.noConfusion z⟩
      have q1 := of_decide_eq_false (Bool.eq_false_iff.mpr h1)
      rw [el] at q1
      exact q1 z.1
end
/-! ### first_greatest -/
theorem getD_of {ns : List Int} {i : Nat} {z : Int} (h : ns[i]? = some z) : ns.getD i 0 = z := by
  rw [List.getD_eq_getElem?_getD, h]
  rfl
def spFirst (K : PySem.W.Frag) : Sp := fun vs H Q _ => ∃ (a : Addr) (ns : List Int), vs = [.ref a] ∧ SqL K H a (ns.map V.int) ∧ 0 < ns.length ∧
  ∀ (k : Nat) (H' : Hp), Same H H' → IsFg ns k → Q (.int (k : Nat)) H'
section
variable {P : Program} {w : World} {K : PySem.W.Frag} {mg : Str → Option Value} {base : Heap}
theorem scFirst : FnScope ["numbers", "found", "at", "number"] ["numbers"] (defScope s_first_greatest) := ⟨rfl, rfl, rfl, by decide +kernel, rfl, by decide +kernel, by decide +kernel⟩
theorem ok_first {f : Addr} {fd : FuncData} (D : Df K mg "first_greatest" s_first_greatest ["numbers"] f fd) (me : mg "enumerate" = none) : FnOk P w K mg base CX0 1 f fd ["numbers"] (spFirst K) := by
  refine D.F.ok scFirst (fun vs H Q E h => ?_) (fun cdv A outer s H vs Q E hr h => ⟨_,
    pss_cons (ps_set (i := 1) scFirst.nd rfl (Or.inl rfl) pe_int)
    (pss_cons (ps_for PassesOwn.never rfl (pi_enum rfl me (pa_cons (pv 0) pa_nil)) (pg_tup rfl (pgs_cons (pg_name (i := 2) scFirst.nd rfl (Or.inl rfl)) (pgs_cons (pg_name (i := 3) scFirst.nd rfl (Or.inl rfl)) pgs_nil)))
      (pss_one (ps_if (pt_cmp (pc_gt (pv 3) (pe_ix ix_list (pv 0) (pv 1) (fun _ _ => rfl)))) (pss_one (ps_set (i := 1) scFirst.nd rfl (Or.inl rfl) (pv 2))) pss_nil)))
    (pss_one (ps_ret (pv 1)))), ?_⟩)
  · obtain ⟨a, ns, rfl, _⟩ := h
    rfl
  · obtain ⟨a, ns, rfl, hS, h0, kk⟩ := h
    refine ⟨_, rfl, a, _, rfl, hS, for_it (walk_enum (K := K) (a := a) (xs := ns.map V.int))
      (fun i σ H' => ∃ (k : Nat) (v2 v3 : Option V), σ = [some (.ref a), some (.int (k : Nat)), v2, v3] ∧ Same H H' ∧ k < ns.length ∧ (k = 0 ∨ k < i) ∧ ∀ j, j < i → ns.getD j 0 ≤ ns.getD k 0 ∧ (j < k → ns.getD j 0 < ns.getD k 0))
      ⟨0, none, none, rfl, fun _ _ e => e, h0, .inl rfl, fun j hj => absurd hj (Nat.not_lt_zero _)⟩ (fun i σ H' _ z => ?_) ?_ ?_⟩
    · obtain ⟨_, _, _, _, sm, _⟩ := z
      exact sm.seq hS
    · rintro i x σ H1 H2 hi ⟨k, v2, v3, rfl, sm, hk, hki, inv⟩ ⟨T, x1, y1, rfl, hT, rfl, e1, e2⟩
      have e1 := Option.some.inj e1
      subst e1
      obtain ⟨z, hz, rfl⟩ := int_at e2
      have sm2 : Same H (upd H1 T (.tup [.int (i : Nat), .int z])) := sm.trans (same_new hT)
      have hk2 : ns[k]? = some (ns[k]) := List.getElem?_eq_getElem hk
      have gk := getD_of hk2
      have gi := getD_of hz
      have hil : i < ns.length := (List.getElem?_eq_some_iff.mp hz).1
      refine ⟨T, _, rfl, SqT.of upd_same, rfl, _, _, rfl, _, _, rfl, rfl, ?_⟩
      refine ⟨_, rfl, _, rfl, _, rfl, a, _, (k : Nat), .int (ns[k]), rfl, rfl, sm2.seq hS, atI_nat (by rw [List.getElem?_map, hk2]; rfl), z, ns[k], rfl, rfl, _, rfl, ?_⟩
      refine ite2 (fun (h : decide (ns[k] < z) = true) => ?_) (fun (h : ¬ decide (ns[k] < z) = true) => ?_)
      · have h' := of_decide_eq_true h
        refine ⟨_, rfl, i, some (.int (i : Nat)), some (.int z), rfl, sm2, hil, .inr (Nat.lt_succ_self _), fun j hj => ?_⟩
        rw [gi]
        by_cases e : j = i
        · subst e
          rw [gi]
          exact ⟨Int.le_refl _, fun q => absurd q (Nat.lt_irrefl _)⟩
        · have := (inv j (by omega)).1
          rw [gk] at this
          exact ⟨by omega, fun _ => by omega⟩
      · have h' := of_decide_eq_false (Bool.eq_false_iff.mpr h)
        refine ⟨k, some (.int (i : Nat)), some (.int z), rfl, sm2, hk, by omega, fun j hj => ?_⟩
        by_cases e : j = i
        · subst e
          rw [gi, gk]
          exact ⟨by omega, fun q => by omega⟩
        · exact inv j (by omega)
    · rintro σ H' ⟨k, v2, v3, rfl, sm, hk, hki, inv⟩
      rw [List.length_map] at inv
      exact ⟨_, rfl, kk k H' sm ⟨hk, inv⟩⟩
end
/-! ### shares_of -/
theorem ixN_of {n k : Nat} (h : k < n) : ixN n (k : Int) = some k := by
  unfold ixN
  rw [if_pos (Int.natCast_nonneg k), if_pos (by omega), Int.toNat_natCast]
theorem ints_map (l : List Nat) (f : Int → Int) : (Kzb6Neutral.ints l).map f = l.map fun x : Nat => f (x : Int) := by
  unfold Kzb6Neutral.ints
  rw [List.map_map]
  rfl
theorem ints_len (l : List Nat) : (Kzb6Neutral.ints l).length = l.length := by
  unfold Kzb6Neutral.ints
  rw [List.length_map]
theorem ints_at {l : List Nat} {i : Nat} {z : Int} (h : (Kzb6Neutral.ints l)[i]? = some z) : ∃ x, x ∈ l ∧ z = ((x : Nat) : Int) := by
  unfold Kzb6Neutral.ints at h
  rw [List.getElem?_map] at h
  cases e : l[i]? with
  | none =>
    rw [e] at h
    cases h
  | some x =>
    rw [e] at h
    exact ⟨x, List.mem_of_getElem? e, (Option.some.inj h).symm⟩
theorem sum_le (M : Nat) : ∀ l : List Nat, (∀ x ∈ l, x ≤ M) → l.sum ≤ M * l.length
  | [], _ => by simp
  | x :: l, h => by
    have ih := sum_le M l fun y hy => h y (by simp [hy])
    have hx := h x (by simp)
    rw [List.sum_cons, List.length_cons, Nat.mul_add]
    omega
def spShares (K : PySem.W.Frag) : Sp := fun vs H Q _ => ∃ (c : Nat) (a : Addr) (l : List Nat), vs = [.int (c : Nat), .ref a] ∧ SqL K H a ((Kzb6Neutral.ints l).map V.int) ∧ l.length ≤ 20 ∧ (∀ x ∈ l, x ≤ 1000000) ∧ c ≤ 100000000 ∧
  ∀ (H' : Hp) (p : Addr), Same H H' → H' p = some (.lst ((sharesI c l).map V.int)) → Q (.ref p) H'
section
variable {P : Program} {w : World} {K : PySem.W.Frag} {mg : Str → Option Value} {base : Heap}
abbrev nmShares : List Str := ["cents", "parts", "whole", "found", "rests", "turn", "at", "part"]
theorem scShares : FnScope nmShares ["cents", "parts"] (defScope s_shares_of) := ⟨rfl, rfl, rfl, by decide +kernel, rfl, by decide +kernel, by decide +kernel⟩
theorem ok_shares {f fG : Addr} {fd fdG : FuncData} (D : Df K mg "shares_of" s_shares_of ["cents", "parts"] f fd) (DG : Df K mg "first_greatest" s_first_greatest ["numbers"] fG fdG) (GG : FnOk P w K mg base CX0 1 fG fdG ["numbers"] (spFirst K))
    (ms : mg "sum" = none) (mr : mg "range" = none) : FnOk P w K mg base CX0 2 f fd ["cents", "parts"] (spShares K) := by
  refine D.F.ok scShares (fun vs H Q E h => ?_) (fun cdv A outer s H vs Q E hr h => ⟨_,
    pss_cons (ps_set (i := 2) scShares.nd rfl (Or.inr rfl) (pe_callB (cr_sum rfl) (by rfl) ms (by decide +kernel) (pa_cons (pv 1) pa_nil)))
    (pss_cons (ps_if (pt_cmp (pc_eqI (pv 2) pe_int))
      (pss_one (ps_ret (pe_lc (own := [("part", 7)]) (g := gName 7) (tt := tYes) (by rfl) scShares.nd (pi_list (pv 1)) (blkOk_by (N := nmShares) (sc := defScope s_shares_of) (by decide +kernel))
        (fun _ _ _ _ _ => by exact (pg_name (i := 7) scShares.nd rfl (Or.inl rfl))) (fun _ _ _ _ _ => pts_nil) (fun _ _ _ _ _ => pe_int)))) pss_nil)
    (pss_cons (ps_setLc (i := 3) (own := [("part", 7)]) (g := gName 7) (tt := tYes) (by rfl) scShares.nd rfl rfl (sw_true rfl rfl rfl (by decide +kernel)) (pi_list (pv 1)) (blkOk_by (N := nmShares) (sc := defScope s_shares_of) (by decide +kernel))
        (fun _ _ _ _ _ => by exact (pg_name (i := 7) scShares.nd rfl (Or.inl rfl))) (fun _ _ _ _ _ => pts_nil) (fun _ _ _ _ _ => by exact (pe_op op_fdiv (pe_op op_mul (pv 7) (pv 0)) (pv 2))))
    (pss_cons (ps_setLc (i := 4) (own := [("part", 7)]) (g := gName 7) (tt := tYes) (by rfl) scShares.nd rfl rfl (sw_true rfl rfl rfl (by decide +kernel)) (pi_list (pv 1)) (blkOk_by (N := nmShares) (sc := defScope s_shares_of) (by decide +kernel))
        (fun _ _ _ _ _ => by exact (pg_name (i := 7) scShares.nd rfl (Or.inl rfl))) (fun _ _ _ _ _ => pts_nil) (fun _ _ _ _ _ => by exact (pe_op op_mod (pe_op op_mul (pv 7) (pv 0)) (pv 2))))
    (pss_cons (ps_for PassesOwn.never rfl (pi_range1 rfl mr (pa_cons (pe_op op_sub (pv 0) (pe_callB (cr_sum rfl) (by rfl) ms (by decide +kernel) (pa_cons (pv 3) pa_nil))) pa_nil)) (pg_name (i := 5) scShares.nd rfl (Or.inl rfl))
      (pss_cons (ps_set (i := 6) scShares.nd rfl (Or.inl rfl) (pe_call GG hr rfl DG.g DG.F.kp DG.b .nil pass0 (pa_cons (pv 4) pa_nil)))
      (pss_cons (ps_asg (pe_op op_add (pe_ix ix_list (pv 3) (pv 6) (fun _ _ => rfl)) pe_int) (pg_sub (pv 3) (pv 6) set_list))
      (pss_one (ps_asg (pe_un un_neg pe_int) (pg_sub (pv 4) (pv 6) set_list))))))
    (pss_one (ps_ret (pv 3))))))), ?_⟩)
  · obtain ⟨c, a, l, rfl, _⟩ := h
    rfl
  · obtain ⟨c, a, l, rfl, hS, hl, hx, hc, k⟩ := h
    have hsum := sum_ints l
    have hil := ints_len l
    have hsb := sum_le 1000000 l hx
    refine ⟨_, rfl, a, Kzb6Neutral.ints l, rfl, hS, ?_⟩
    refine ⟨_, rfl, (Kzb6Neutral.ints l).sum, 0, rfl, rfl, _, rfl, ite2 (fun (h : decide ((Kzb6Neutral.ints l).sum = 0) = true) => ?_) (fun (h : ¬ decide ((Kzb6Neutral.ints l).sum = 0) = true) => ?_)⟩
    · have h0 : l.sum = 0 := by
        have := of_decide_eq_true h
        omega
      refine ⟨_, rfl, a, rfl, ⟨_, hS⟩, fun D hD => lc_list (K := K) (a := a) (xs := (Kzb6Neutral.ints l).map V.int) (fun i H' => Same H H' ∧ H' D = some (.lst ((((Kzb6Neutral.ints l).map fun _ => (0 : Int)).take i).map V.int)))
        ⟨same_new hD, upd_same⟩ (fun i H' _ z => z.1.seq hS) ?_ ?_⟩
      · rintro i x H' hx ⟨sm, hd⟩
        obtain ⟨z, hz, rfl⟩ := int_at hx
        refine ⟨rfl, _, hd, map_take_len _ _ (by omega), same_upd hD sm, ?_⟩
        rw [upd_same]
        exact congrArg (fun z => some (HO.lst z)) (map_take (fun _ => (0 : Int)) V.int hz).symm
      · rintro H' ⟨sm, hd⟩
        rw [map_take_all, ints_map l fun _ => 0, shares_none (c := c) h0] at hd
        exact k H' D sm hd
    · have h0 : l.sum ≠ 0 := by
        have := of_decide_eq_false (Bool.eq_false_iff.mpr h)
        omega
      have bs : 0 < (Kzb6Neutral.ints l).sum ∧ (Kzb6Neutral.ints l).sum < 1073741824 := by
        rw [← hsum]
        omega
      refine ⟨_, rfl, a, rfl, ⟨_, hS⟩, fun D1 hD1 => lc_list (K := K) (a := a) (xs := (Kzb6Neutral.ints l).map V.int) (fun i H' => Same H H' ∧ H' D1 = some (.lst ((((Kzb6Neutral.ints l).map fun x => x * (c : Int) / (Kzb6Neutral.ints l).sum).take i).map V.int)))
        ⟨same_new hD1, upd_same⟩ (fun i H' _ z => z.1.seq hS) ?_ ?_⟩
      · rintro i x H' hx1 ⟨sm, hd⟩
        obtain ⟨z, hz, rfl⟩ := int_at hx1
        obtain ⟨y, my, ey⟩ := ints_at hz
        have by1 := hx y my
        refine ⟨rfl, _, rfl, _, rfl, z, (c : Int), rfl, rfl, .inl ⟨by omega, by omega⟩, _, rfl, _, _, rfl, rfl, bs, _, hd, map_take_len _ _ (by omega), same_upd hD1 sm, ?_⟩
        rw [upd_same]
        exact congrArg (fun z => some (HO.lst z)) (map_take (fun x => x * (c : Int) / (Kzb6Neutral.ints l).sum) V.int hz).symm
      · rintro H1 ⟨sm1, hd1⟩
        rw [map_take_all, ints_map, ← hsum, found_zero h0] at hd1
        refine ⟨_, rfl, a, rfl, ⟨_, sm1.seq hS⟩, fun D2 hD2 => lc_list (K := K) (a := a) (xs := (Kzb6Neutral.ints l).map V.int) (fun i H' => Same H1 H' ∧ H' D2 = some (.lst ((((Kzb6Neutral.ints l).map fun x => x * (c : Int) % (Kzb6Neutral.ints l).sum).take i).map V.int)))
          ⟨same_new hD2, upd_same⟩ (fun i H' _ z => (sm1.trans z.1).seq hS) ?_ ?_⟩
        · rintro i x H' hx1 ⟨sm, hd⟩
          obtain ⟨z, hz, rfl⟩ := int_at hx1
          obtain ⟨y, my, ey⟩ := ints_at hz
          have by1 := hx y my
          refine ⟨rfl, _, rfl, _, rfl, z, (c : Int), rfl, rfl, .inl ⟨by omega, by omega⟩, _, rfl, _, _, rfl, rfl, bs.1, _, hd, map_take_len _ _ (by omega), same_upd hD2 sm, ?_⟩
          rw [upd_same]
          exact congrArg (fun z => some (HO.lst z)) (map_take (fun x => x * (c : Int) % (Kzb6Neutral.ints l).sum) V.int hz).symm
        · rintro H2 ⟨sm2, hd2⟩
          rw [map_take_all, ints_map, ← hsum, rests_zero h0] at hd2
          have d12 : D1 ≠ D2 := ne_of_none hd1 hD2
          have eo := found_sum (c := c) h0
          have hov := over_le (c := c) h0
          refine ⟨_, rfl, _, rfl, D1, foundI c l fun _ => false, rfl, SqL.of (sm2 _ _ hd1), _, _, rfl, rfl, _, rfl, ?_, ?_, ?_⟩
          · show -(2 ^ 62) ≤ (c : Int) - (foundI c l fun _ => false).sum
            rw [eo]
            omega
          · show (c : Int) - (foundI c l fun _ => false).sum < 2 ^ 62
            rw [eo]
            omega
          · have en : ((c : Int) - (foundI c l fun _ => false).sum).toNat = Kzb6.over c l := by rw [eo, Int.toNat_natCast]
            show ∃ W : Nat → Nat → L2.St → Hp → Prop, _
            refine for_range (lo := 0) (n := ((c : Int) - (foundI c l fun _ => false).sum).toNat)
              (fun t σ H' => ∃ (p : Nat → Bool) (v5 v6 : Option V), σ = [some (.int (c : Nat)), some (.ref a), some (.int (Kzb6Neutral.ints l).sum), some (.ref D1), some (.ref D2), v5, v6, none] ∧ Same H H' ∧
                H' D1 = some (.lst ((foundI c l p).map V.int)) ∧ H' D2 = some (.lst ((restsI c l p).map V.int)) ∧ Top c l t p)
              ⟨fun _ => false, none, none, rfl, sm1.trans sm2, sm2 _ _ hd1, hd2, top_zero c l⟩ ?_ ?_
            · rintro t σ H3 ht ⟨p, v5, v6, rfl, sm, e1, e2, T⟩
              rw [en] at ht
              have htl : t < l.length := by omega
              have lr : (restsI c l p).length = l.length := by unfold restsI; simp
              have lf : (foundI c l p).length = l.length := by unfold foundI; simp
              refine ⟨_, rfl, D2, restsI c l p, rfl, SqL.of e2, by omega, fun kk H4 sm4 fg => ?_⟩
              obtain ⟨hk, pk⟩ := fg_new T htl fg
              have hz : (foundI c l p)[kk]? = some ((foundI c l p)[kk]'(by omega)) := List.getElem?_eq_getElem (by omega)
              have e1' := sm4 _ _ e1
              have e2' := sm4 _ _ e2
              refine ⟨_, rfl, _, rfl, D1, _, (kk : Nat), _, rfl, rfl, SqL.of e1', atI_nat (by rw [List.getElem?_map, hz]; rfl), _, _, rfl, rfl, ?_⟩
              refine ⟨_, rfl, _, rfl, D1, _, (kk : Nat), kk, rfl, rfl, e1', ixN_of (by rw [List.length_map]; omega), ?_⟩
              refine ⟨_, rfl, _, rfl, _, rfl, D2, (restsI c l p).map V.int, (kk : Nat), kk, rfl, rfl, ?_, ixN_of (by rw [List.length_map]; omega), put p kk, _, _, rfl, ?_, ?_, ?_, top_put T htl fg⟩
              · rw [upd_ne (Ne.symm d12)]
                exact e2'
              · intro b u hb
                have nb1 : b ≠ D1 := ne_of_none hb hD1
                have nb2 : b ≠ D2 := ne_of_none (sm1 _ _ hb) hD2
                rw [upd_ne nb2, upd_ne nb1]
                exact sm4 _ _ (sm _ _ hb)
              · rw [upd_ne d12, upd_same, ← found_put pk hz, List.map_set]
              · rw [upd_same, ← rests_put, List.map_set]
            · rintro σ H3 ⟨p, v5, v6, rfl, sm, e1, e2, T⟩
              rw [en] at T
              rw [shares_end T] at e1
              exact ⟨_, rfl, k H3 D1 sm e1⟩
end
/-! ### share -/
def spMain (K : PySem.W.Frag) : Sp := fun vs H Q _ => ∃ (n : Int) (a : Addr) (ns : List Int), vs = [.int n, .ref a] ∧ SqL K H a (ns.map V.int) ∧ (∀ x ∈ ns, 0 ≤ x) ∧ 0 ≤ n ∧
  ∀ (H' : Hp) (p : Addr), H' p = some (.lst ((shareAns n ns).map V.int)) → Q (.ref p) H'
theorem shares_len (c : Nat) (l : List Nat) : (sharesI c l).length = l.length := by
  unfold sharesI Kzb6Neutral.ints Kzb6.share
  simp
section
variable {P : Program} {w : World} {K : PySem.W.Frag} {mg : Str → Option Value} {base : Heap} {C fI : Addr}
theorem scMain : FnScope ["n", "l", "refusal"] ["n", "l"] (defScope s_share) := ⟨rfl, rfl, rfl, by decide +kernel, rfl, by decide +kernel, by decide +kernel⟩
theorem ok_main {f fM fP fS : Addr} {fd fdM fdP fdS : FuncData} (D : Df K mg "share" s_share ["n", "l"] f fd) (R : RefT K mg C fI)
    (DM : Df K mg "must" s_must ["so"] fM fdM) (GM : FnOk P w K mg base (L2.CX P w) 3 fM fdM ["so"] (spMust C))
    (DP : Df K mg "look_at_parts" s_look_at_parts ["parts"] fP fdP) (GP : FnOk P w K mg base (L2.CX P w) 4 fP fdP ["parts"] (spParts C K))
    (DS : Df K mg "shares_of" s_shares_of ["cents", "parts"] fS fdS) (GS : FnOk P w K mg base CX0 2 fS fdS ["cents", "parts"] (spShares K))
    (cC : Ct mg "MOST_CENTS" 100000000) (ml : mg "len" = none) : FnOk P w K mg base CX0 5 f fd ["n", "l"] (spMain K) := by
  refine D.F.ok scMain (fun vs H Q E h => ?_) (fun cdv A outer s H vs Q E hr h => ⟨_, pss_cons (ps_try_as (i := 2) rfl rfl scMain.nd rfl rfl ⟨rfl, by decide, Or.inl R.gC⟩ takes0
      (fun W pn xe tk _ => pss_cons (ps_expr (pe_callS GM (hr.mono (by decide)) rfl DM.g DM.F.kp DM.b (fun σ => passAt tk σ) (pa_cons (pe_cmp (pc_le (pv 0) (pe_ct cC))) pa_nil)))
        (pss_one (ps_expr (pe_callS GP hr rfl DP.g DP.F.kp DP.b (fun σ => passAt tk σ) (pa_cons (pv 1) pa_nil)))))
      (fun a oe cls d pn hz hf => pss_one (ps_ret (pe_lst (pa_cons (pe_xf R.xf R.noN hz hf (pv 2)) pa_nil)))))
    (pss_one (ps_ret (pe_op op_cat (pe_lst (pa_cons (pe_callB call_len_seq (by rfl) ml PySem.boot_len (pa_cons (pv 1) pa_nil)) pa_nil)) (pe_call GS (hr.mono (by decide)) rfl DS.g DS.F.kp DS.b .nil pass0 (pa_cons (pv 0) (pa_cons (pv 1) pa_nil)))))), ?_⟩)
  · obtain ⟨n, a, ns, rfl, _⟩ := h
    rfl
  · obtain ⟨n, a, ns, rfl, hS, hn, h0, k⟩ := h
    refine ⟨_, rfl, n, 100000000, rfl, rfl, _, rfl, fun o d hd => ?_, fun o => ?_⟩
    · refine ⟨true, R.te, fun _ a _ => ?_, fun q => Bool.noConfusion q⟩
      refine ⟨_, rfl, rfl, rfl, d, _, _, rfl, upd_same, lkN, line_small (n := 1) (by decide), fun p hp => k _ p ?_⟩
      rw [upd_same, shareAns, if_neg (by intro z; exact of_decide_eq_false o z.1)]
      rfl
    · have o1 := of_decide_eq_true o
      refine ⟨_, rfl, a, ns, rfl, hS, fun o2 H' d hd => ?_, fun o2 H1 sm => ?_⟩
      · refine ⟨true, R.te, fun _ a _ => ?_, fun q => Bool.noConfusion q⟩
        refine ⟨_, rfl, rfl, rfl, d, _, _, rfl, hd, lkN, line_small (n := 1) (by decide), fun p hp => k _ p ?_⟩
        rw [upd_same, shareAns, if_neg (by intro z; exact o2 z.2)]
        rfl
      · refine ⟨_, rfl, a, _, rfl, .inl (sm.seq hS), line_small (n := 1) (by decide), fun t ht => ?_⟩
        have e : Kzb6Neutral.ints (Kzb6Neutral.natsOf ns) = ns := nats_ints ns hn
        have el : (Kzb6Neutral.natsOf ns).length = ns.length := by unfold Kzb6Neutral.natsOf; rw [List.length_map]
        have en : ((n.toNat : Nat) : Int) = n := by omega
        have s2 := sm.trans (same_new (o := .lst [.int (((ns.map V.int).length : Nat) : Int)]) ht)
        refine ⟨_, rfl, _, rfl, n.toNat, a, Kzb6Neutral.natsOf ns, by rw [en]; rfl, by rw [e]; exact s2.seq hS, by omega, ?_, by omega, fun H2 p sm2 hp => ?_⟩
        · intro x hx
          unfold Kzb6Neutral.natsOf at hx
          obtain ⟨z, hz, rfl⟩ := List.mem_map.mp hx
          have := of_decide_eq_true (List.all_eq_true.mp o2.2 z hz)
          omega
        · refine ⟨t, p, _, _, rfl, rfl, sm2 _ _ upd_same, hp, line_small ?_, fun u hu => k _ u ?_⟩
          · show 1 + ((sharesI n.toNat (Kzb6Neutral.natsOf ns)).map V.int).length ≤ 1000
            rw [List.length_map, shares_len]
            omega
          · rw [upd_same, shareAns, if_pos ⟨o1, o2⟩, List.length_map]
            rfl
end
theorem main_spec (K : PySem.W.Frag) (H : Hp) (xs : List V) (a : Codec.denoteAll PySem.Challenge.rw_growerspaid_s05_share.args) (hwi : Codec.withinAll PySem.Challenge.rw_growerspaid_s05_share.args a = true)
    (hx : DwAll K H xs (Codec.encAll PySem.Challenge.rw_growerspaid_s05_share.args a)) :
    spMain K xs H (fun v H' => Dw K H' v (PySem.Challenge.rw_growerspaid_s05_share.ret.enc (Codec.app PySem.Challenge.rw_growerspaid_s05_share.args PySem.Challenge.rw_growerspaid_s05_share.f a))) fun _ _ _ => False := by
  obtain ⟨n, l, u⟩ := a
  have w : (Codec.inInt 0 4294967295 n && ((Codec.inLen 0 66 l && List.all l (Codec.inInt 0 4294967295)) && true)) = true := hwi
  rw [Bool.and_eq_true, Bool.and_eq_true, Bool.and_eq_true, Codec.inInt_iff] at w
  have hn : ∀ x ∈ (show List Int from l), 0 ≤ x := fun x hx => (Codec.inInt_iff.mp (List.all_eq_true.mp w.2.1.2 x hx)).1
  cases hx with
  | cons h1 h2 =>
    cases h2 with
    | cons h2 h3 =>
      cases h3
      cases h1
      cases h2 with
      | lst hs ha =>
        have e := ints_dw l _ ha
        subst e
        refine ⟨n, _, l, rfl, hs, hn, w.1.1, fun H' p hp => ?_⟩
        show Dw K H' (.ref p) (.list ((PyKzb6.share n l).map PySem.W.WData.int))
        rw [s05_is]
        exact .lst (SqL.of hp) (dw_ints _)
/-! ### the end: what the top has written -/
theorem exm_self {K : PySem.W.Frag} {S : Addr} (h1 : PySem.W.subIn K (.ref S) (.type "BaseException") = some true) (h2 : PySem.W.isClsIn K S = true) (h3 : PySem.W.typeIn K (.ref S) = some (.type "type")) (h4 : PySem.W.subIn K (.ref S) (.ref S) = some true) :
    PySem.W.exmOne K (.ref S) (.ref S) = some true := by
  have e1 : (PySem.W.subIn K (.ref S) (.type "BaseException") == some true) = true := by rw [h1] <;> rfl
  have e2 : ((PySem.W.clsIn K S).isSome && PySem.W.typeIn K (.ref S) == some (.type "type")) = true := by
    have h2' : (PySem.W.clsIn K S).isSome = true := h2
    rw [h2', h3] <;> rfl
  show (if (PySem.W.subIn K (.ref S) (.type "BaseException") == some true) = true then (if ((PySem.W.clsIn K S).isSome && PySem.W.typeIn K (.ref S) == some (.type "type")) = true then PySem.W.subIn K (.ref S) (.ref S) else none) else none) = some true
  rw [if_pos e1, if_pos e2]
  exact h4
theorem all_mk {P : Program} {w : World} {K : PySem.W.Frag} {h : Heap} {mg : Str → Option Value} {fa C f0 : Addr}
    {f_must f_look_at_parts f_first_greatest f_shares_of f_share : Addr}
    {od0 an0 : Option Addr} {sl0 : Array (Option Value)} {oc0 kV0 dc0 pm0 cd0 ct0 : Value}
    {od_must an_must : Option Addr} {sl_must : Array (Option Value)} {oc_must kV_must dc_must pm_must cd_must ct_must : Value}
    {od_look_at_parts an_look_at_parts : Option Addr} {sl_look_at_parts : Array (Option Value)} {oc_look_at_parts kV_look_at_parts dc_look_at_parts pm_look_at_parts cd_look_at_parts ct_look_at_parts : Value}
    {od_first_greatest an_first_greatest : Option Addr} {sl_first_greatest : Array (Option Value)} {oc_first_greatest kV_first_greatest dc_first_greatest pm_first_greatest cd_first_greatest ct_first_greatest : Value}
    {od_shares_of an_shares_of : Option Addr} {sl_shares_of : Array (Option Value)} {oc_shares_of kV_shares_of dc_shares_of pm_shares_of cd_shares_of ct_shares_of : Value}
    {od_share an_share : Option Addr} {sl_share : Array (Option Value)} {oc_share kV_share dc_share pm_share cd_share ct_share : Value}
    {nm q : Str} {N : Addr} {bs : List Value} {sn : List Str} {sub : List Value} {ab : Bool} {col : Option Bool} {dd : Option Addr} {m0 m1 m2 m3 m5 : Option Value}
    {t_OUT_OF_RANGE t_MOST_CENTS t_MOST_PARTS t_MOST_PART : Tok}
    (X : K.In h) (G : h.Ns mainGlobals mg) (hfa : mg "share" = some (.ref fa))
    (aC : PySem.W.nsIn K mainGlobals "Refused" = some (some (.ref C)))
    (xL : K.lookup C = some (excClassObj nm q C N bs [.type "ValueError", .type "Exception", .type "BaseException", .type "object"] true sn sub ab col dd m0 m1 m2 m3 m5 "ValueError.__new__"))
    (sa : PySem.W.findIn K (.ref C) "__setattr__" = some (some (.builtin "object.__setattr__")))
    (ga : PySem.W.findIn K (.ref C) "__getattribute__" = some (some (.builtin "BaseException.__getattribute__")))
    (gg : PySem.W.findIn K (.ref C) "__getattr__" = some none)
    (nb : PySem.W.findIn K (.ref C) "number" = some none)
    (a0 : PySem.W.findIn K (.ref C) "__init__" = some (some (.ref f0)))
    (t0 : PySem.W.typeIn K (.ref f0) = some (.type "function"))
    (l0 : K.lookup f0 = some ⟨oc0, od0, .func (PySem.W.fnOf "__init__" "Refused.__init__" (defArgs sInit) (defBody sInit) (defScope sInit) .none kV0 dc0 pm0 an0 cd0 ct0), sl0⟩)
    (c0 : PySem.W.codeIn K cd0 "Refused.__init__" = true)
    (k0 : PySem.W.keepIn K (.ref f0) = true)
    (kC : PySem.W.keepIn K (.ref C) = true)
    (eC : PySem.W.subIn K (.ref C) (.type "BaseException") = some true)
    (tC : PySem.W.typeIn K (.ref C) = some (.type "type"))
    (hC : PySem.W.hasDictIn K C = true)
    (iC : PySem.W.isClsIn K C = true)
    (sC : PySem.W.subIn K (.ref C) (.ref C) = some true)
    (a_must : PySem.W.nsIn K mainGlobals "must" = some (some (.ref f_must)))
    (l_must : K.lookup f_must = some ⟨oc_must, od_must, .func (PySem.W.fnOf "must" "must" (defArgs s_must) (defBody s_must) (defScope s_must) .none kV_must dc_must pm_must an_must cd_must ct_must), sl_must⟩)
    (c_must : PySem.W.codeIn K cd_must "must" = true)
    (k_must : PySem.W.keepIn K (.ref f_must) = true)
    (a_look_at_parts : PySem.W.nsIn K mainGlobals "look_at_parts" = some (some (.ref f_look_at_parts)))
    (l_look_at_parts : K.lookup f_look_at_parts = some ⟨oc_look_at_parts, od_look_at_parts, .func (PySem.W.fnOf "look_at_parts" "look_at_parts" (defArgs s_look_at_parts) (defBody s_look_at_parts) (defScope s_look_at_parts) .none kV_look_at_parts dc_look_at_parts pm_look_at_parts an_look_at_parts cd_look_at_parts ct_look_at_parts), sl_look_at_parts⟩)
    (c_look_at_parts : PySem.W.codeIn K cd_look_at_parts "look_at_parts" = true)
    (k_look_at_parts : PySem.W.keepIn K (.ref f_look_at_parts) = true)
    (a_first_greatest : PySem.W.nsIn K mainGlobals "first_greatest" = some (some (.ref f_first_greatest)))
    (l_first_greatest : K.lookup f_first_greatest = some ⟨oc_first_greatest, od_first_greatest, .func (PySem.W.fnOf "first_greatest" "first_greatest" (defArgs s_first_greatest) (defBody s_first_greatest) (defScope s_first_greatest) .none kV_first_greatest dc_first_greatest pm_first_greatest an_first_greatest cd_first_greatest ct_first_greatest), sl_first_greatest⟩)
    (c_first_greatest : PySem.W.codeIn K cd_first_greatest "first_greatest" = true)
    (k_first_greatest : PySem.W.keepIn K (.ref f_first_greatest) = true)
    (a_shares_of : PySem.W.nsIn K mainGlobals "shares_of" = some (some (.ref f_shares_of)))
    (l_shares_of : K.lookup f_shares_of = some ⟨oc_shares_of, od_shares_of, .func (PySem.W.fnOf "shares_of" "shares_of" (defArgs s_shares_of) (defBody s_shares_of) (defScope s_shares_of) .none kV_shares_of dc_shares_of pm_shares_of an_shares_of cd_shares_of ct_shares_of), sl_shares_of⟩)
    (c_shares_of : PySem.W.codeIn K cd_shares_of "shares_of" = true)
    (k_shares_of : PySem.W.keepIn K (.ref f_shares_of) = true)
    (a_share : PySem.W.nsIn K mainGlobals "share" = some (some (.ref f_share)))
    (l_share : K.lookup f_share = some ⟨oc_share, od_share, .func (PySem.W.fnOf "share" "share" (defArgs s_share) (defBody s_share) (defScope s_share) .none kV_share dc_share pm_share an_share cd_share ct_share), sl_share⟩)
    (c_share : PySem.W.codeIn K cd_share "share" = true)
    (k_share : PySem.W.keepIn K (.ref f_share) = true)
    (n_OUT_OF_RANGE : PySem.W.nsIn K mainGlobals "OUT_OF_RANGE" = some (some (.int (-22) t_OUT_OF_RANGE)))
    (n_MOST_CENTS : PySem.W.nsIn K mainGlobals "MOST_CENTS" = some (some (.int (100000000) t_MOST_CENTS)))
    (n_MOST_PARTS : PySem.W.nsIn K mainGlobals "MOST_PARTS" = some (some (.int (20) t_MOST_PARTS)))
    (n_MOST_PART : PySem.W.nsIn K mainGlobals "MOST_PART" = some (some (.int (1000000) t_MOST_PART)))
    (z_len : PySem.W.nsIn K mainGlobals "len" = some none)
    (z_sum : PySem.W.nsIn K mainGlobals "sum" = some none)
    (z_range : PySem.W.nsIn K mainGlobals "range" = some none)
    (z_enumerate : PySem.W.nsIn K mainGlobals "enumerate" = some none)
    (z_all : PySem.W.nsIn K mainGlobals "all" = some none) :
    ∃ fd : FuncData, (∀ (s : Shared) (us : List Value), us.length = (["n", "l"] : List Str).length → BindsTo s fd ⟨us, []⟩ ((["n", "l"] : List Str).zip us)) ∧ ∀ base : Heap, K.In base → base.Ns mainGlobals mg → FnOk P w K mg base CX0 5 fa fd ["n", "l"] (spMain K) := by
  have e : f_share = fa := by
    have z := (PySem.W.mg_of X G a_share).symm.trans hfa
    cases z
    rfl
  subst e
  have R : RefT K mg C f0 := ⟨PySem.W.mg_of X G aC, ⟨⟨nm, q, N, bs, _, sn, sub, ab, col, dd, m0, m1, m2, m3, m5, xL, by decide +kernel⟩, sa, eC, tC, kC⟩, ⟨ga, gg, eC, hC⟩, nb, a0, t0, exm_self eC iC tC sC, ⟨_, PySem.W.mg_of X G n_OUT_OF_RANGE⟩⟩
  have F0 := fun_mk (st := sInit) l0 c0 k0
  have b0 := F0.binds (ps := ["self", "number"]) fun _ _ _ _ _ _ us hl => match us, hl with | [_, _], _ => rfl
  have F_must := fun_mk (st := s_must) l_must c_must k_must
  have D_must : Df K mg "must" s_must ["so"] f_must _ := ⟨F_must, PySem.W.mg_of X G a_must, F_must.binds (ps := ["so"]) fun _ _ _ _ _ _ us hl => match us, hl with | [_], _ => rfl⟩
  have F_look_at_parts := fun_mk (st := s_look_at_parts) l_look_at_parts c_look_at_parts k_look_at_parts
  have D_look_at_parts : Df K mg "look_at_parts" s_look_at_parts ["parts"] f_look_at_parts _ := ⟨F_look_at_parts, PySem.W.mg_of X G a_look_at_parts, F_look_at_parts.binds (ps := ["parts"]) fun _ _ _ _ _ _ us hl => match us, hl with | [_], _ => rfl⟩
  have F_first_greatest := fun_mk (st := s_first_greatest) l_first_greatest c_first_greatest k_first_greatest
  have D_first_greatest : Df K mg "first_greatest" s_first_greatest ["numbers"] f_first_greatest _ := ⟨F_first_greatest, PySem.W.mg_of X G a_first_greatest, F_first_greatest.binds (ps := ["numbers"]) fun _ _ _ _ _ _ us hl => match us, hl with | [_], _ => rfl⟩
  have F_shares_of := fun_mk (st := s_shares_of) l_shares_of c_shares_of k_shares_of
  have D_shares_of : Df K mg "shares_of" s_shares_of ["cents", "parts"] f_shares_of _ := ⟨F_shares_of, PySem.W.mg_of X G a_shares_of, F_shares_of.binds (ps := ["cents", "parts"]) fun _ _ _ _ _ _ us hl => match us, hl with | [_, _], _ => rfl⟩
  have F_share := fun_mk (st := s_share) l_share c_share k_share
  have D_share : Df K mg "share" s_share ["n", "l"] f_share _ := ⟨F_share, PySem.W.mg_of X G a_share, F_share.binds (ps := ["n", "l"]) fun _ _ _ _ _ _ us hl => match us, hl with | [_, _], _ => rfl⟩
  have C_OUT_OF_RANGE : Ct mg "OUT_OF_RANGE" (-22) := ⟨_, PySem.W.mg_of X G n_OUT_OF_RANGE⟩
  have C_MOST_CENTS : Ct mg "MOST_CENTS" (100000000) := ⟨_, PySem.W.mg_of X G n_MOST_CENTS⟩
  have C_MOST_PARTS : Ct mg "MOST_PARTS" (20) := ⟨_, PySem.W.mg_of X G n_MOST_PARTS⟩
  have C_MOST_PART : Ct mg "MOST_PART" (1000000) := ⟨_, PySem.W.mg_of X G n_MOST_PART⟩
  have Z_len : mg "len" = none := PySem.W.mg_none_of X G z_len
  have Z_sum : mg "sum" = none := PySem.W.mg_none_of X G z_sum
  have Z_range : mg "range" = none := PySem.W.mg_none_of X G z_range
  have Z_enumerate : mg "enumerate" = none := PySem.W.mg_none_of X G z_enumerate
  have Z_all : mg "all" = none := PySem.W.mg_none_of X G z_all
  refine ⟨PySem.W.fnOf "share" "share" (defArgs s_share) (defBody s_share) (defScope s_share) .none kV_share dc_share pm_share an_share cd_share ct_share, fun s us hu => match us, hu with | [_, _], _ => .of_eq rfl, fun base _ _ => ?_⟩
  have GM : FnOk P w K mg base (L2.CX P w) 3 f_must _ ["so"] (spMust C) := ok_must D_must R F0 b0
  exact ok_main D_share R D_must GM D_look_at_parts (ok_parts D_look_at_parts D_must GM C_MOST_PARTS C_MOST_PART Z_len Z_all) D_shares_of (ok_shares D_shares_of D_first_greatest (ok_first D_first_greatest Z_enumerate) Z_sum Z_range) C_MOST_CENTS Z_len
end Gp
open PySem PySem.W PyProof.Rows
set_option maxRecDepth 100000 in
set_option maxHeartbeats 8000000 in
theorem PySem.Challenge.cw_growerspaid_s05_share_holds : PySem.Challenge.rw_growerspaid_s05_share.Holds := by
  w_on; k_headS; (case hw => exact ⟨[.int 0, .list []], by decide +kernel, by decide +kernel⟩)
  k_fillS
  refine L2.walk_specK (r := PySem.Challenge.rw_growerspaid_s05_share) (k := 5) (CX := L2.CX0) (ps := ["n", "l"]) (sp := Gp.spMain) (by decide +kernel) rfl rfl ⟨rfl, by decide, by decide⟩ (fun w h Y => PySem.W.kIn_of Y) ?F ?S (fun _ _ _ _ z => z)
  case F =>
    intro w mg fa h Y KX G hmg
    refine' Gp.all_mk KX G hmg ?aC ?xL ?sa ?ga ?gg ?nb ?a0 ?t0 ?l0 ?c0 ?k0 ?kC ?eC ?tC ?hC ?iC ?sC ?a_must ?l_must ?c_must ?k_must ?a_look_at_parts ?l_look_at_parts ?c_look_at_parts ?k_look_at_parts ?a_first_greatest ?l_first_greatest ?c_first_greatest ?k_first_greatest ?a_shares_of ?l_shares_of ?c_shares_of ?k_shares_of ?a_share ?l_share ?c_share ?k_share ?n_OUT_OF_RANGE ?n_MOST_CENTS ?n_MOST_PARTS ?n_MOST_PART ?z_len ?z_sum ?z_range ?z_enumerate ?z_all
    (case aC => k_is)
    (case xL => k_is)
    (case sa => k_is)
    (case ga => k_is)
    (case gg => k_is)
    (case nb => k_is)
    (case a0 => k_is)
    (case t0 => k_is)
    (case l0 => k_is)
    (case c0 => k_is)
    (case k0 => k_is)
    (case kC => k_is)
    (case eC => k_is)
    (case tC => k_is)
    (case hC => k_is)
    (case iC => k_is)
    (case sC => first | rfl | k_is)
    (case a_must => k_is)
    (case l_must => k_is)
    (case c_must => k_is)
    (case k_must => k_is)
    (case a_look_at_parts => k_is)
    (case l_look_at_parts => k_is)
    (case c_look_at_parts => k_is)
    (case k_look_at_parts => k_is)
    (case a_first_greatest => k_is)
    (case l_first_greatest => k_is)
    (case c_first_greatest => k_is)
    (case k_first_greatest => k_is)
    (case a_shares_of => k_is)
    (case l_shares_of => k_is)
    (case c_shares_of => k_is)
    (case k_shares_of => k_is)
    (case a_share => k_is)
    (case l_share => k_is)
    (case c_share => k_is)
    (case k_share => k_is)
    (case n_OUT_OF_RANGE => k_is)
    (case n_MOST_CENTS => k_is)
    (case n_MOST_PARTS => k_is)
    (case n_MOST_PART => k_is)
    (case z_len => k_is)
    (case z_sum => k_is)
    (case z_range => k_is)
    (case z_enumerate => k_is)
    (case z_all => k_is)
  case S =>
    intro K H xs a hO hwi hask hx
    exact Gp.main_spec K H xs a hwi hx
#print axioms PySem.Challenge.cw_growerspaid_s05_share_holds
