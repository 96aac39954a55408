/- What the program's functions come to, in plain Lean: no program in sight. -/
namespace Go.Proofs.YtpgnplmjfhdncaaGreat
/-- Coppers. -/
structure Cop where
  last : Int
  start : Int
  most : Int
  per : Int
  shovels : Int
  coal : List Int
  want : List Int
  hlo : Int
  hhi : Int
  loss : List (Int × Int)
  rds : List (Int × Int × Int)
/-- A room. -/
structure Rm where
  cop : Cop
  buckets : Int
  places : Int
  baths : List (Int × Int)
def nth (xs : List Int) (j : Nat) : Int := xs.getD j 0
def p1 (xs : List (Int × Int)) (j : Nat) : Int := (xs.getD j (0, 0)).1
def p2 (xs : List (Int × Int)) (j : Nat) : Int := (xs.getD j (0, 0)).2
def t1 (xs : List (Int × Int × Int)) (j : Nat) : Int := (xs.getD j (0, 0, 0)).1
def t2 (xs : List (Int × Int × Int)) (j : Nat) : Int := (xs.getD j (0, 0, 0)).2.1
def t3 (xs : List (Int × Int × Int)) (j : Nat) : Int := (xs.getD j (0, 0, 0)).2.2
def within (n low high : Int) : Bool := decide (low ≤ n) && decide (n ≤ high)
/-- r.room: can there be k baths, where want is wanted. -/
def roomB (places want buckets k : Int) : Bool := decide (k = 0) || (decide (k ≤ places) && decide (want + buckets * k ≤ 20))
/-- r.possible, from hour i on, d hours. -/
def canFrom (r : Rm) (n : List Int) : Nat → Nat → Bool
  | _, 0 => true
  | i, d + 1 => roomB r.places (nth r.cop.want i) r.buckets (nth n i) && canFrom r n (i + 1) d
def canB (r : Rm) (n : List Int) : Bool := canFrom r n 0 (r.cop.last + 1).toNat
/-- The first number from i on, of d, that p has; -1. -/
def idxN (p : Nat → Bool) : Nat → Nat → Int
  | _, 0 => -1
  | i, d + 1 => if p i = true then (i : Int) else idxN p (i + 1) d
theorem idxN_ge (p : Nat → Bool) (d : Nat) : ∀ i, 0 ≤ idxN p i d ↔ ∃ j, i ≤ j ∧ j < i + d ∧ p j = true := by
  induction d with
  | zero => intro i; simp only [idxN]; constructor
            · intro h; omega
            · rintro ⟨j, h1, h2, _⟩; omega
  | succ d ih =>
    intro i
    simp only [idxN]
    split
    · rename_i h
      exact ⟨fun _ => ⟨i, Nat.le_refl _, by omega, h⟩, fun _ => by omega⟩
    · rename_i h
      rw [ih (i + 1)]
      constructor
      · rintro ⟨j, h1, h2, h3⟩; exact ⟨j, by omega, by omega, h3⟩
      · rintro ⟨j, h1, h2, h3⟩
        rcases Nat.lt_or_ge i j with h4 | h4
        · exact ⟨j, by omega, by omega, h3⟩
        · obtain rfl : i = j := by omega
          exact absurd h3 h
def anyN (p : Nat → Bool) (n : Nat) : Bool := decide (0 ≤ idxN p 0 n)
def allN (p : Nat → Bool) (n : Nat) : Bool := !anyN (fun j => !p j) n
theorem anyN_iff (p : Nat → Bool) (n : Nat) : anyN p n = true ↔ ∃ j, j < n ∧ p j = true := by
  simp only [anyN, decide_eq_true_eq, idxN_ge, Nat.zero_add]
  exact ⟨fun ⟨j, _, h, k⟩ => ⟨j, h, k⟩, fun ⟨j, h, k⟩ => ⟨j, by omega, h, k⟩⟩
theorem allN_iff (p : Nat → Bool) (n : Nat) : allN p n = true ↔ ∀ j, j < n → p j = true := by
  simp only [allN, Bool.not_eq_true', ← Bool.not_eq_true, anyN_iff]
  constructor
  · intro h j hj
    cases hp : p j with
    | true => rfl
    | false => exact absurd ⟨j, hj, by simp [hp]⟩ h
  · rintro h ⟨j, hj, hp⟩
    simp [h j hj] at hp
theorem idxN_step {p : Nat → Bool} {n j : Nat} (hj : j < n) (h : idxN p 0 n = idxN p j (n - j)) (hp : p j = false) : idxN p 0 n = idxN p (j + 1) (n - (j + 1)) := by
  obtain ⟨m, hm⟩ : ∃ m, n - j = m + 1 := ⟨n - j - 1, by omega⟩
  rw [h, hm, idxN, if_neg (by simp [hp]), show n - (j + 1) = m from by omega]
theorem idxN_hit {p : Nat → Bool} {n j : Nat} (hj : j < n) (h : idxN p 0 n = idxN p j (n - j)) (hp : p j = true) : idxN p 0 n = j := by
  obtain ⟨m, hm⟩ : ∃ m, n - j = m + 1 := ⟨n - j - 1, by omega⟩
  rw [h, hm, idxN, if_pos hp]
theorem idxN_end {p : Nat → Bool} {n : Nat} (h : idxN p 0 n = idxN p n (n - n)) : idxN p 0 n = -1 := by rw [h, Nat.sub_self]; rfl
/-- Range.inside. -/
def okR (most lo hi : Int) : Bool := decide (0 ≤ lo) && decide (lo ≤ hi) && decide (hi ≤ most)
def okRd (last h lo hi : Int) : Bool := within h 0 last && okR 999 lo hi
def coalB (c : Cop) (l : List Int) : Bool := decide ((l.length : Int) = c.last + 1) && allN (fun j => within (nth l j) 0 c.shovels) l.length
def promB (c : Cop) (l : List Int) : Bool := decide ((l.length : Int) = c.last + 1) && allN (fun j => within (nth l j) 0 20) l.length
def bad1 (c : Cop) : Bool := decide (4 < c.last) || decide ((5 : Int) < (c.rds.length : Int))
def bad2 (c : Cop) : Bool := decide (c.last < 0) || !within c.start 0 c.most || decide (999 < c.most) || !within c.per 1 20 || !within c.shovels 0 3
def bad3 (c : Cop) : Bool := !coalB c c.coal || !promB c c.want || !okR 99 c.hlo c.hhi || !decide ((c.loss.length : Int) = c.last + 1) || !allN (fun j => okR 99 (p1 c.loss j) (p2 c.loss j)) c.loss.length || !allN (fun j => okRd c.last (t1 c.rds j) (t2 c.rds j) (t3 c.rds j)) c.rds.length
def manyC (c : Cop) : Nat → Int
  | 0 => c.hhi - c.hlo + 1
  | j + 1 => min (manyC c j * (p2 c.loss j - p1 c.loss j + 1)) 2001
/-- CheckCopper. -/
def checkCop (c : Cop) : Int := if bad1 c = true then 3 else if bad2 c = true then 1 else if bad3 c = true then 1 else if 2000 < manyC c c.loss.length then 3 else 0
theorem okR_spec {most lo hi : Int} (h : okR most lo hi = true) : 0 ≤ lo ∧ lo ≤ hi ∧ hi ≤ most := by
  simp only [okR, Bool.and_eq_true, decide_eq_true_eq] at h
  exact ⟨h.1.1, h.1.2, h.2⟩
theorem manyC_bd {c : Cop} (h0 : okR 99 c.hlo c.hhi = true) (hl : ∀ j, j < c.loss.length → okR 99 (p1 c.loss j) (p2 c.loss j) = true) : ∀ j, j ≤ c.loss.length → 1 ≤ manyC c j ∧ manyC c j ≤ 2001 := by
  intro j
  induction j with
  | zero => intro _; have := okR_spec h0; simp only [manyC]; omega
  | succ j ih =>
    intro hj
    have h1 := ih (by omega)
    have h2 := okR_spec (hl j (by omega))
    have h3 : 1 * 1 ≤ manyC c j * (p2 c.loss j - p1 c.loss j + 1) := Int.mul_le_mul h1.1 (by omega) (by omega) (by omega)
    simp only [manyC]
    omega
/-- The heat of hour i, before any bucket is drawn, where x was left. -/
def heatOf (c : Cop) (coal : List Int) (s : Int × List Int) (i : Nat) (x : Int) : Int := max 0 (min c.most (x + nth coal i * s.1) - nth s.2 i)
/-- What is left of y. -/
def leftOf (per wt y : Int) : Int := if wt ≤ y / per then y - wt * per else 0
/-- What was left before hour i. -/
def before (c : Cop) (coal want : List Int) (s : Int × List Int) : Nat → Int
  | 0 => c.start
  | i + 1 => leftOf c.per (nth want i) (heatOf c coal s i (before c coal want s i))
def heatAt (c : Cop) (coal want : List Int) (s : Int × List Int) (i : Nat) : Int := heatOf c coal s i (before c coal want s i)
def hotAt (c : Cop) (coal want : List Int) (s : Int × List Int) (i : Nat) : Int := heatAt c coal want s i / c.per
def keptAt (c : Cop) (coal want : List Int) (s : Int × List Int) (i : Nat) : Bool := decide (nth want i ≤ hotAt c coal want s i)
end Go.Proofs.YtpgnplmjfhdncaaGreat
