/- How many scenes there are. -/
import Derived.Test.YtpgnplmjfhdncaaGreatKC8
namespace Go.Proofs.YtpgnplmjfhdncaaGreat
def szN (c : Cop) (i : Nat) : Nat := (p2 c.loss i - p1 c.loss i + 1).toNat
def prodN (c : Cop) : Nat → Nat → Nat
  | _, 0 => 1
  | i, d + 1 => szN c i * prodN c (i + 1) d
theorem prodN_snoc (c : Cop) : ∀ (d i : Nat), prodN c i (d + 1) = prodN c i d * szN c (i + d)
  | 0, i => by simp [prodN]
  | d + 1, i => by
    rw [prodN, prodN_snoc c d (i + 1), prodN, Nat.mul_assoc, show i + 1 + d = i + (d + 1) by omega]
theorem length_flatMap_const {α β : Type} (l : List α) (f : α → List β) (k : Nat) (h : ∀ x ∈ l, (f x).length = k) : (l.flatMap f).length = l.length * k := by
  induction l with
  | nil => simp
  | cons x l ih =>
    rw [List.flatMap_cons, List.length_append, h x (by simp), ih (fun y hy => h y (by simp [hy])), List.length_cons, Nat.add_mul]
    omega
theorem lossFrom_len (c : Cop) : ∀ (d : Nat) (pre : List Int), (lossFrom c d pre).length = prodN c pre.length d
  | 0, pre => rfl
  | d + 1, pre => by
    rw [lossFrom, length_flatMap_const _ _ (prodN c (pre.length + 1) d) (fun k _ => by rw [lossFrom_len c d]; simp), List.length_range]
    rfl
theorem scenes_len (c : Cop) : (scenesC c).length = (c.hhi - c.hlo + 1).toNat * prodN c 0 (c.last + 1).toNat := by
  rw [scenesC, length_flatMap_const _ _ (prodN c 0 (c.last + 1).toNat) (fun k _ => by rw [List.length_map, losses, lossFrom_len]; rfl), List.length_range]
theorem many_prod {c : Cop} (hh : okR 99 c.hlo c.hhi = true) (hl : ∀ j, j < c.loss.length → okR 99 (p1 c.loss j) (p2 c.loss j) = true) : ∀ j, j ≤ c.loss.length → manyC c j ≤ 2000 → manyC c j = (((c.hhi - c.hlo + 1).toNat * prodN c 0 j : Nat) : Int) := by
  intro j
  induction j with
  | zero => intro _ _; have := okR_spec hh; simp only [manyC, prodN, Nat.mul_one]; omega
  | succ j ih =>
    intro hj hm
    have h1 := manyC_bd hh hl j (by omega)
    have h2 := okR_spec (hl j (by omega))
    simp only [manyC] at hm ⊢
    have h3 : manyC c j * 1 ≤ manyC c j * (p2 c.loss j - p1 c.loss j + 1) := Int.mul_le_mul_of_nonneg_left (by omega) (by omega)
    have h4 : manyC c j ≤ 2000 := by omega
    have h5 := ih (by omega) h4
    rw [prodN_snoc, Nat.zero_add, ← Nat.mul_assoc, Int.natCast_mul, ← h5]
    have h6 : ((szN c j : Nat) : Int) = p2 c.loss j - p1 c.loss j + 1 := by unfold szN; omega
    rw [h6]
    omega
theorem scenes_small {c : Cop} (h : Okc c) : (scenesC c).length ≤ 2000 := by
  have h1 := many_prod h.hh h.lb c.loss.length (Nat.le_refl _) h.many
  have h2 := h.many
  have h3 : (c.last + 1).toNat = c.loss.length := by have := h.ll; omega
  rw [scenes_len, h3]
  omega
end Go.Proofs.YtpgnplmjfhdncaaGreat
