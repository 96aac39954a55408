/- A region that draws, in a round, by an invariant. -/
import Derived.Test.YtpgnplmjfhdncaaGreatKRnd
import Derived.Test.YtpgnplmjfhdncaaGreatKInv
namespace Go.Proofs.YtpgnplmjfhdncaaGreat
open Go.RowKit
set_option linter.unusedVariables false
theorem rowsIn_wide {P : Program} {n : Nat} {row : String} {args : Array Value} {w : World} {R : Value → World → Prop} (h : Rows P row args w R) : RowsIn Fence.wide n P row args w R :=
  fun c cs _ => let ⟨v, w', r, s⟩ := h c cs; ⟨v, w', r, stepsIn_wide.2 s⟩
theorem wpInR_of_wp {P : Program} {l : Nat} {o : Oper} {a : Act} {K : Act → World → Prop} {Q : Exit → Act → World → Prop} {w : World} (hnd : noDefer o = true) (h : o.wp P a w K Q) : o.wpIn (Fence.wide.inRound l) 0 P a w K Q := by
  unfold Oper.wp at h
  unfold Oper.wpIn
  refine ⟨fun _ _ => trivial, ?_⟩
  rw [Oper.semAt_eq _ _ _ (noDefer_spec hnd)]
  generalize (execOp a.eval o).run P w = r at *
  cases r with
  | ok x w' =>
    cases x with
    | enter f args => exact ⟨fun h => by simp [Fence.inRound, Fence.wide] at h, CallsIn.inRound l (callsIn_wide.2 (Calls.mono (by simpa only [Oper.upon_enter] using h) (fun e w'' hh => by cases e <;> exact hh)))⟩
    | row r args => exact ⟨fun h => by simp [Fence.inRound, Fence.wide] at h, rowsIn_wide (by simpa only [Oper.upon_row] using h)⟩
    | _ => first | exact h | exact h.elim
  | halt x w' => cases x <;> first | exact h | exact h.elim
theorem wpAnyIn_of_any {P : Program} {l : Nat} {ops : Array Oper} {md : Region.Mode} {Q : Exit → Act → World → Prop} (hnd : ∀ o ∈ ops, noDefer o = true) (hQ : ¬ LetsOut Q) : ∀ (fuel : Nat) (listed : Array Bool) (a : Act) (w : World),
    wpAny P md ops Q fuel listed a w → wpAnyIn (Fence.wide.inRound l) 0 P md ops Q fuel listed a w
  | 0, _, _, _, h => h
  | fuel + 1, listed, a, w, h => ⟨h.1, fun i hi => by
    have := h.2 i hi
    unfold wpOp at this
    unfold wpOpIn
    split
    · rename_i ho; simp only [ho] at this; exact wpAnyIn_of_any hnd hQ fuel _ _ _ this
    · rename_i o ho
      simp only [ho] at this
      split
      · rename_i hw
        rw [if_pos hw] at this
        rcases this with h1 | ⟨_, h2⟩
        · exact Oper.wpIn_mono (fun a w h => wpAnyIn_of_any hnd hQ fuel _ a w h) (wpInR_of_wp (hnd o (Array.mem_of_getElem? ho)) h1)
        · exact (hQ h2).elim
      · rename_i hw
        rw [if_neg hw] at this
        exact ⟨fun _ _ => trivial, wpAnyIn_of_any hnd hQ fuel _ _ _ this⟩⟩
theorem wpIn_round_inv {P : Program} {l id : Nat} {Q : Exit → Act → World → Prop} {a : Act} {w : World} {ops : List Oper} (hnd : ops.all noDefer = true) (hQ : ¬ LetsOut Q) (I : (Nat → Bool) → Act → World → Prop) (hm : P.follows .mixedOrders = true) (hb : before_ ops = true)
    (h0 : I (fun _ => false) a w.drew) (step : Each P ops.toArray Q (Closed ops) I ops 0) (fin : ∀ done a w, (∀ i, i < ops.length → done i = true) → I done a w → Q .normal a w) :
    (Code.region id ops.toArray true).wpIn (Fence.wide.inRound l) 0 P Q a w :=
  wpIn_region_any hm (wpAnyIn_of_any (fun o ho => by simpa using List.all_eq_true.1 hnd o (by simpa using ho)) hQ _ _ _ _ (wpAny_region_inv I hb h0 step fin))
end Go.Proofs.YtpgnplmjfhdncaaGreat
