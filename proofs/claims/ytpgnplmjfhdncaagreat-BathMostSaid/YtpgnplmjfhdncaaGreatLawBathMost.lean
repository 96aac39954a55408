/- BathMost answers true, whatever the room; what it was called with reads as before. No condition. -/
import Derived.Test.YtpgnplmjfhdncaaGreatRows
import Derived.Test.YtpgnplmjfhdncaaGreatKV8
import Derived.Test.YtpgnplmjfhdncaaGreatKOpen
import Derived.WalkKit
import Derived.ProofKit
import Derived.OpenShut
import Derived.ShutString
import Derived.ChangeOld
import Derived.Below
import Derived.SizedLaws
namespace Go.Proofs.YtpgnplmjfhdncaaGreat.bathMost
open Go.ChangeShapes Go.WideShapes Go.ChangeAt Go.RowKit
set_option linter.unusedVariables false
theorem own : ownKnob Tryz.prog.godebug = none := by kernel_rfl
theorem laidOut : laidOutB Tryz.prog = true := by kernel_rfl
set_option maxRecDepth 100000 in
theorem lifted (os : Os) (started : os.Started) (H : Type) (enc : TypeId × Value → H) :
    ReturnsInHanded {} Tryz.checked os 6 .any (Rows.bathMostSpec.pre6 enc Tryz.prog Tryz.f6 Rows.bathMostRow.domain false) (Rows.bathMostSpec.post enc Tryz.prog Tryz.f6 false true false false) := by
  refine returnsInHanded_of_change_sized (C := Tryz.checked) own started (by kernel_rfl) Tryz.func6
    (ChangeSpec.witness6 (enc := enc) (C := Tryz.checked) false ⟨#[], #[.agg #[.int .i64 0, .int .i64 0, .int .i64 0, .int .i64 0, .int .i64 0, .slice none 0 0, .slice none 0 0, .int .i64 0, .int .i64 0, .slice none 0 0, .slice none 0 0, .int .i64 0, .int .i64 0, .slice none 0 0]], []⟩ 8 (by kernel_rfl) (by kernel_rfl) (by kernel_rfl) (by kernel_rfl)) ?_
  intro W base args ds gs before hval0 hW hcnd hsz0 _
  have hval : ∀ (j : Nat) t v, Tryz.f6.params[j]? = some t → args[j]? = some v → Value.okWide Tryz.prog W .any base t v := hval0
  have hW' := hW
  obtain ⟨p, q, hA0, hV, rfl, hfz, hnd⟩ := hW
  have hA : DataW.TrodAll enc Tryz.prog W 0 (fun _ => true) true Tryz.f6.params.toList args.toList ds p := hA0
  rw [Tryz.params6] at hA hval
  obtain ⟨v0, vs0, d0, ds0, p0, q0, hargs, rfl, rfl, h0, r0⟩ := trodAll_cons hA
  obtain ⟨rfl, rfl, rfl⟩ := trodAll_nil r0
  obtain rfl : args = #[v0] := by cases args; simp_all
  obtain ⟨rfl, rfl⟩ := trodVars_none hV
  obtain ⟨cs, rfl, hcs⟩ := okWide_struct Tryz.underlying31 (hval 0 31 v0 rfl rfl)
  have k0 := h0
  have lt0 : ∀ x ∈ p0, x.block < W.heap.size := by obtain ⟨m, hm⟩ := k0; exact DataW.trod_lt m _ _ _ hm
  obtain ⟨r, q, hcr, hq, hp⟩ : ∃ r q, cs.toList = (roomCs r q).toList ∧ RoomAt W W.heap.size r q ∧ CPl r.cop q.q := by
    obtain ⟨m, hm⟩ := k0
    exact open31 hm
  obtain rfl : cs = roomCs r q := Array.toList_inj.1 hcr
  clear hA0 hval0 hsz0
  refine (bathMost_c r q W hq hp).mono fun e W' ⟨he, bel⟩ => ?_
  subst he
  exact ⟨_, rfl, _, _, _, [], _, [], hW', trodAll_mk1 (shut_bool Tryz.underlying4 _), (trodAll_cons_mk (Below.trod laidOut (by kernel_rfl) (of_decide_eq_true (by kernel_rfl)) k0 bel lt0) trodAll_mk0), rfl, bel.frame _, fun h => by cases h⟩
theorem named : Tryz.pinned.checked.prog.funcNamed Rows.bathMostRow.func = some 6 := by kernel_rfl
theorem isInst : Tryz.f6.isInstance Tryz.pinned.checked.prog Rows.bathMostRow.origin Rows.bathMostRow.targs := of_decide_eq_true (by kernel_rfl)
theorem isWrap : Tryz.f6.isWrapper Tryz.pinned.checked.prog Rows.bathMostRow.wrapper Rows.bathMostRow.mainSum := by
  unfold Func.isWrapper
  first | (rw [if_pos (by decide +kernel)]; kernel_rfl) | (rw [if_neg (by decide +kernel)]; exact ⟨rfl, rfl⟩)
theorem facts : joinedFacts Tryz.pinned.checked.prog 6 Tryz.f6 Rows.bathMostSpec Rows.bathMostRow = true := by kernel_rfl
theorem over : Rows.bathMostRow.holds Tryz.pinned (OpenSpec.ofChange Rows.bathMostSpec) :=
  OpenClaim.holds_of_wide 6 Tryz.f6 rfl rfl rfl rfl rfl rfl rfl ⟨rfl, rfl, rfl, rfl, rfl⟩ rfl rfl rfl rfl rfl named Tryz.func6 facts isInst isWrap
    (fun os started H enc _ => lifted os started H enc)
theorem proved : Rows.BathMostSaid := over
#print axioms proved
end Go.Proofs.YtpgnplmjfhdncaaGreat.bathMost
namespace Go.Proofs.YtpgnplmjfhdncaaGreat
/-- The row, under a short name, for the claim. -/
theorem bathMost_holds : Rows.BathMostSaid := bathMost.proved
end Go.Proofs.YtpgnplmjfhdncaaGreat
