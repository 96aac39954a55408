/- A part of the proof: Eqs. -/
import Derived.Test.YtpgnplmjfhdncaaGreatKC8
import Derived.DeepKeys
namespace Go.Proofs.YtpgnplmjfhdncaaGreat
open Go.RowKit
/-- Two scenes are the same in their six numbers. -/
def eqS (s t : Int × List Int) : Bool := s.1 == t.1 && nth s.2 0 == nth t.2 0 && nth s.2 1 == nth t.2 1 && nth s.2 2 == nth t.2 2 && nth s.2 3 == nth t.2 3 && nth s.2 4 == nth t.2 4
theorem cells3 : Tryz.prog.cellsOf 3 = 1 := by kernel_rfl
theorem info3' : (Tryz.prog.info? 3).isSome = true := by kernel_rfl
theorem part3 (xs : Array Value) (i : Nat) (k : Int) (W : World) (h : xs[i]? = some (.int .i64 k)) : (part 3 xs i).run Tryz.prog W = .ok (.int .i64 k) W := by
  unfold part
  go_simp
theorem item3 (d : Nat) (xs ys : Array Value) (i : Nat) (is : List Nat) (a b : Int) (W : World) (ha : xs[i]? = some (.int .i64 a)) (hb : ys[i]? = some (.int .i64 b)) :
    (Op.eqItems (d + 1) 3 1 xs ys (i :: is)).run Tryz.prog W = if a == b then (Op.eqItems (d + 1) 3 1 xs ys is).run Tryz.prog W else .ok false W := by
  rw [Op.eqItems]
  simp only [Nat.mul_one, Sem.run_bind, part3 xs i a W ha, part3 ys i b W hb, Result.andThen_ok, run_equalIn_int W d 3 .i64 .i64 a b Tryz.underlying3]
  cases h : a == b <;> simp
theorem eq156 (n : Nat) (a0 a1 a2 a3 a4 b0 b1 b2 b3 b4 : Int) (W : World) : (Op.equalIn (n + 2) 156 (.agg #[.int .i64 a0, .int .i64 a1, .int .i64 a2, .int .i64 a3, .int .i64 a4]) (.agg #[.int .i64 b0, .int .i64 b1, .int .i64 b2, .int .i64 b3, .int .i64 b4])).run Tryz.prog W = .ok (a0 == b0 && a1 == b1 && a2 == b2 && a3 == b3 && a4 == b4) W := by
  obtain ⟨i, hi⟩ := Option.isSome_iff_exists.1 info3'
  rw [show n + 2 = (n + 1) + 1 from rfl, run_equalIn_array W (n + 1) _ _ Tryz.underlying156 hi, cells3]
  show (Op.eqItems (n + 1) 3 1 _ _ [0, 1, 2, 3, 4]).run Tryz.prog W = _
  rw [item3 n _ _ 0 _ a0 b0 W rfl rfl, item3 n _ _ 1 _ a1 b1 W rfl rfl, item3 n _ _ 2 _ a2 b2 W rfl rfl, item3 n _ _ 3 _ a3 b3 W rfl rfl, item3 n _ _ 4 _ a4 b4 W rfl rfl]
  cases a0 == b0 <;> cases a1 == b1 <;> cases a2 == b2 <;> cases a3 == b3 <;> cases a4 == b4 <;> rfl
theorem eq158 (n : Nat) (s t : Int × List Int) (W : World) : (Op.equalIn (n + 3) 158 (scV s.1 s.2) (scV t.1 t.2)).run Tryz.prog W = .ok (eqS s t) W := by
  unfold Op.equalIn
  go_simp
  simp only [eq156]
  unfold eqS
  by_cases h : s.1 = t.1
  · simp only [h, beq_self_eq_true, Bool.true_and, if_true, Result.andThen_ok]
    cases nth s.2 0 == nth t.2 0 && nth s.2 1 == nth t.2 1 && nth s.2 2 == nth t.2 2 && nth s.2 3 == nth t.2 3 && nth s.2 4 == nth t.2 4 <;> simp
  · have : (s.1 == t.1) = false := by simpa using h
    simp [h, this]
@[go_sem ↓] theorem eq158_in (h1 h2 : Int) (l1 l2 : List Int) (W : World) : (Op.equalIn 10000 158 (.agg #[.int .i64 h1, .int .i64 (nth l1 0), .int .i64 (nth l1 1), .int .i64 (nth l1 2), .int .i64 (nth l1 3), .int .i64 (nth l1 4)]) (.agg #[.int .i64 h2, .int .i64 (nth l2 0), .int .i64 (nth l2 1), .int .i64 (nth l2 2), .int .i64 (nth l2 3), .int .i64 (nth l2 4)])).run Tryz.prog W = .ok (eqS (h1, l1) (h2, l2)) W := eq158 9997 (h1, l1) (h2, l2) W
end Go.Proofs.YtpgnplmjfhdncaaGreat
