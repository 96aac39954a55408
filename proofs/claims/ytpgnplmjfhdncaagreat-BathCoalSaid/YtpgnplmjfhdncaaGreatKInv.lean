/- A region that draws its order, by one invariant: each operation, whatever has come up before it, carries it on. -/
import Derived.Test.YtpgnplmjfhdncaaGreatKPlus
namespace Go.Proofs.YtpgnplmjfhdncaaGreat
open Go.RowKit
section
variable {P : Program} {ops : Array Oper} {Q : Exit → Act → World → Prop} {md : Region.Mode}
/-- k has come up, too. -/
def also (i : Nat) (done : Nat → Bool) : Nat → Bool := fun k => k == i || done k
def left_ (n : Nat) (listed : Array Bool) : Nat := ((List.range n).filter fun k => !listed.getD k false).length
theorem filter_le {α : Type} (p q : α → Bool) (h : ∀ x, q x = true → p x = true) (l : List α) : (l.filter q).length ≤ (l.filter p).length := by
  induction l with
  | nil => simp
  | cons x l ih =>
    cases hq : q x with
    | true => simp only [List.filter_cons, hq, h x hq, if_true, List.length_cons]; omega
    | false =>
      cases hp : p x with
      | true => simp only [List.filter_cons, hq, hp, if_true, Bool.false_eq_true, if_false, List.length_cons]; omega
      | false => simp only [List.filter_cons, hq, hp, Bool.false_eq_true, if_false]; omega
theorem filter_lt {α : Type} (p q : α → Bool) (h : ∀ x, q x = true → p x = true) (l : List α) (y : α) (hy : y ∈ l) (hp : p y = true) (hq : q y = false) : (l.filter q).length < (l.filter p).length := by
  induction l with
  | nil => cases hy
  | cons x l ih =>
    rcases List.mem_cons.1 hy with rfl | hm
    · have := filter_le p q h l
      simp only [List.filter_cons, hq, hp, if_true, Bool.false_eq_true, if_false, List.length_cons]; omega
    · have := ih hm
      cases hqx : q x with
      | true => simp only [List.filter_cons, hqx, h x hqx, if_true, List.length_cons]; omega
      | false =>
        cases hpx : p x with
        | true => simp only [List.filter_cons, hqx, hpx, if_true, Bool.false_eq_true, if_false, List.length_cons]; omega
        | false => simp only [List.filter_cons, hqx, hpx, Bool.false_eq_true, if_false]; omega
theorem getD_set (listed : Array Bool) (i k : Nat) (hi : i < listed.size) : (listed.setIfInBounds i true).getD k false = (k == i || listed.getD k false) := by
  by_cases h : k = i
  · subst h; simp [hi]
  · simp [Array.getElem?_setIfInBounds_ne (Ne.symm h), h]
theorem wpAny_inv (I : (Nat → Bool) → Act → World → Prop)
    (hlt : ∀ i o, ops[i]? = some o → ∀ e ∈ o.after, Region.binds md e = true → e.on < i)
    (step : ∀ i o done a w, ops[i]? = some o → done i = false → (∀ e ∈ o.after, Region.binds md e = true → done e.on = true) → I done a w → wpOp P ops Q i (I (also i done)) a w)
    (fin : ∀ done a w, (∀ i, i < ops.size → done i = true) → I done a w → Q .normal a w) :
    ∀ (fuel : Nat) (listed : Array Bool) (a : Act) (w : World), listed.size = ops.size → left_ ops.size listed ≤ fuel → I (fun k => listed.getD k false) a w → wpAny P md ops Q fuel listed a w := by
  have hall : ∀ listed : Array Bool, listed.size = ops.size → Region.ready md ops listed = [] → ∀ i, i < ops.size → listed.getD i false = true := by
    intro listed hs hr i
    induction i using Nat.strongRecOn with
    | ind i ih =>
      intro hi
      cases hd : listed.getD i false with
      | true => rfl
      | false =>
        have hmem : i ∈ Region.ready md ops listed := by
          unfold Region.ready
          rw [List.mem_filter, List.mem_range]
          refine ⟨hi, ?_⟩
          have h1 : listed.getD i true = false := by
            have hi' : i < listed.size := by omega
            simp [hi'] at hd ⊢; exact hd
          simp only [h1, Bool.not_false, Bool.true_and]
          rw [Array.getElem?_eq_getElem hi]
          simp only [Option.map_some, Option.getD_some, Array.all_eq_true']
          intro e he
          cases hb : Region.binds md e with
          | false => rfl
          | true =>
            have := ih e.on (hlt i _ (Array.getElem?_eq_getElem hi) e he hb) (by have := hlt i _ (Array.getElem?_eq_getElem hi) e he hb; omega)
            simp only [this, Bool.or_true]
        rw [hr] at hmem
        cases hmem
  intro fuel
  induction fuel with
  | zero =>
    intro listed a w hs hf hI
    have hz : ∀ i, i < ops.size → listed.getD i false = true := by
      intro i hi
      cases hd : listed.getD i false with
      | true => rfl
      | false =>
        have hm : i ∈ (List.range ops.size).filter fun k => !listed.getD k false := List.mem_filter.2 ⟨List.mem_range.2 hi, by simp [hd]⟩
        have := List.length_pos_of_mem hm
        unfold left_ at hf
        omega
    refine ⟨?_, fin _ a w hz hI⟩
    unfold Region.ready
    rw [List.filter_eq_nil_iff]
    intro i hi
    have hi' := List.mem_range.1 hi
    have := hz i hi'
    have h2 : i < listed.size := by omega
    simp [h2] at this ⊢
    simp [this]
  | succ fuel ih =>
    intro listed a w hs hf hI
    refine ⟨fun hr => fin _ a w (hall listed hs hr) hI, fun i hi => ?_⟩
    unfold Region.ready at hi
    rw [List.mem_filter, List.mem_range] at hi
    obtain ⟨hi1, hi2⟩ := hi
    rw [Array.getElem?_eq_getElem hi1] at hi2
    simp only [Option.map_some, Option.getD_some, Bool.and_eq_true, Bool.not_eq_true', Array.all_eq_true'] at hi2
    obtain ⟨hi3, hi4⟩ := hi2
    have hil : i < listed.size := by omega
    have hi5 : listed.getD i false = false := by simp [hil] at hi3 ⊢; exact hi3
    refine wpOp_mono (fun a' w' h => ih _ a' w' (by simp [hs]) ?_ ?_) (step i _ _ a w (Array.getElem?_eq_getElem hi1) hi5 (fun e he hb => by have := hi4 e he; simpa [hb] using this) hI)
    · have hl := filter_lt (fun k => !listed.getD k false) (fun k => !(listed.setIfInBounds i true).getD k false) (fun x hx => by
          rw [getD_set _ _ _ hil] at hx
          simp only [Bool.not_or, Bool.and_eq_true, Bool.not_eq_true'] at hx ⊢
          exact hx.2) (List.range ops.size) i (List.mem_range.2 hi1) (by simp only [hi5, Bool.not_false]) (by rw [getD_set _ _ _ hil]; simp)
      unfold left_ at hf ⊢
      omega
    · have he : (fun k => (listed.setIfInBounds i true).getD k false) = also i (fun k => listed.getD k false) := by
        funext k
        exact getD_set _ _ _ hil
      rw [he]
      exact h
/-- What has come up waits for nothing. -/
def Closed (l : List Oper) (done : Nat → Bool) : Prop := ∀ i o, l[i]? = some o → done i = true → ∀ e ∈ o.after, Region.binds .any e = true → done e.on = true
/-- Each operation of the list, from number k on. -/
def Each (P : Program) (ops : Array Oper) (Q : Exit → Act → World → Prop) (C : (Nat → Bool) → Prop) (I : (Nat → Bool) → Act → World → Prop) : List Oper → Nat → Prop
  | [], _ => True
  | o :: l, k => (∀ done a w, C done → done k = false → (∀ e ∈ o.after, Region.binds .any e = true → done e.on = true) → I done a w → ∀ K : Act → World → Prop, (∀ a' w', I (also k done) a' w' → K a' w') →
      if Region.wanted o (yielded ops a.tmps) = true then o.wp P a w K Q else K (a.put o.dst undef) w) ∧ Each P ops Q C I l (k + 1)
theorem Each.at_ {C : (Nat → Bool) → Prop} {I : (Nat → Bool) → Act → World → Prop} : ∀ (l : List Oper) (k : Nat), Each P ops Q C I l k → ∀ j o, l[j]? = some o → ∀ done a w, C done → done (k + j) = false → (∀ e ∈ o.after, Region.binds .any e = true → done e.on = true) → I done a w →
    if Region.wanted o (yielded ops a.tmps) = true then o.wp P a w (I (also (k + j) done)) Q else I (also (k + j) done) (a.put o.dst undef) w
  | [], _, _, j, o, h => by simp at h
  | o' :: l, k, h, 0, o, hj => by
    simp only [List.getElem?_cons_zero, Option.some.injEq] at hj
    subst hj
    exact fun done a w h0 h1 h2 h3 => h.1 done a w h0 h1 h2 h3 _ (fun _ _ h => h)
  | o' :: l, k, h, j + 1, o, hj => by
    simp only [List.getElem?_cons_succ] at hj
    have := Each.at_ l (k + 1) h.2 j o hj
    rw [show k + 1 + j = k + (j + 1) from by omega] at this
    exact this
def before_ (ops : List Oper) : Bool := (ops.zipIdx).all fun (o, i) => o.after.all fun e => !Region.binds .any e || decide (e.on < i)
/-- **A region that draws its order, by an invariant.** -/
theorem wpAny_region_inv {a : Act} {w : World} {l : List Oper} (I : (Nat → Bool) → Act → World → Prop) (hb : before_ l = true)
    (h0 : I (fun _ => false) a w.drew) (step : Each P l.toArray Q (Closed l) I l 0) (fin : ∀ done a w, (∀ i, i < l.length → done i = true) → I done a w → Q .normal a w) :
    wpAny P .any l.toArray Q l.toArray.size (Array.replicate l.toArray.size false) a { w with drawn := w.drawn + 1 } := by
  refine wpAny_inv (fun done a w => Closed l done ∧ I done a w) ?_ ?_ (fun done a w h hI => fin done a w (by simpa using h) hI.2) _ _ a _ (by simp) ?_ ?_
  · intro i o ho e he hbd
    unfold before_ at hb
    rw [List.all_eq_true] at hb
    have hio : l[i]? = some o := by simpa using ho
    have hmem : (o, i) ∈ l.zipIdx := by
      rw [List.mem_iff_getElem?]
      exact ⟨i, by simp [List.getElem?_zipIdx, hio]⟩
    have h1 := hb _ hmem
    simp only [Array.all_eq_true'] at h1
    have h2 := h1 e he
    simpa [hbd] using h2
  · intro i o done a w ho hd hdep hI
    have hio : l[i]? = some o := by simpa using ho
    have hcl : Closed l (also i done) := by
      intro i' o' hi' hd' e he hbd
      simp only [also, Bool.or_eq_true, beq_iff_eq] at hd' ⊢
      rcases hd' with rfl | hd'
      · rw [hio] at hi'; cases hi'; exact .inr (hdep e he hbd)
      · exact .inr (hI.1 i' o' hi' hd' e he hbd)
    have := Each.at_ l 0 step i o hio done a w hI.1 (by simpa using hd) hdep hI.2
    unfold wpOp
    simp only [ho]
    rw [Nat.zero_add] at this
    split
    · rename_i hw
      rw [if_pos hw] at this
      exact .inl (Oper.wp_mono (fun _ _ h => ⟨hcl, h⟩) this)
    · rename_i hw
      rw [if_neg hw] at this
      exact ⟨hcl, this⟩
  · unfold left_
    exact Nat.le_trans (List.length_filter_le _ _) (by simp)
  · have : (fun k => (Array.replicate l.toArray.size false).getD k false) = fun _ => false := by
      funext k
      by_cases hk : k < l.length <;> simp [hk]
    rw [this]
    exact ⟨fun _ _ _ h => (by cases h), h0⟩
theorem wp_region_inv {id : Nat} {a : Act} {w : World} {l : List Oper} (I : (Nat → Bool) → Act → World → Prop) (hm : P.follows .mixedOrders = true) (hb : before_ l = true)
    (h0 : I (fun _ => false) a w.drew) (step : Each P l.toArray Q (Closed l) I l 0) (fin : ∀ done a w, (∀ i, i < l.length → done i = true) → I done a w → Q .normal a w) :
    (Code.region id l.toArray true).wp P Q a w := wp_region_any hm (wpAny_region_inv I hb h0 step fin)
end
end Go.Proofs.YtpgnplmjfhdncaaGreat
