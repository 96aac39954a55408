/- BathCoal answers true, whatever the room and the plan; what it was called with reads as before. No condition. -/
import Derived.Test.YtpgnplmjfhdncaaGreatRows
import Derived.Test.YtpgnplmjfhdncaaGreatKV12
import Derived.Test.YtpgnplmjfhdncaaGreatKOpen
import Derived.WalkKit
import Derived.ProofKit
import Derived.OpenShut
import Derived.ShutString
import Derived.ChangeOld
import Derived.Below
import Derived.SizedLaws
namespace Go.Proofs.YtpgnplmjfhdncaaGreat.bathCoal
open Go.ChangeShapes Go.WideShapes Go.ChangeAt Go.RowKit
set_option linter.unusedVariables false
theorem own : ownKnob Tryz.prog.godebug = none := by kernel_rfl
theorem laidOut : laidOutB Tryz.prog = true := by kernel_rfl
set_option maxRecDepth 100000 in
theorem lifted (os : Os) (started : os.Started) (H : Type) (enc : TypeId × Value → H) :
    ReturnsInHanded {} Tryz.checked os 10 .any (Rows.bathCoalSpec.pre6 enc Tryz.prog Tryz.f10 Rows.bathCoalRow.domain false) (Rows.bathCoalSpec.post enc Tryz.prog Tryz.f10 false true false false) := by
  refine returnsInHanded_of_change_sized (C := Tryz.checked) own started (by kernel_rfl) Tryz.func10
    (ChangeSpec.witness6 (enc := enc) (C := Tryz.checked) false ⟨#[], #[.agg #[.int .i64 0, .int .i64 0, .int .i64 0, .int .i64 0, .int .i64 0, .slice none 0 0, .slice none 0 0, .int .i64 0, .int .i64 0, .slice none 0 0, .slice none 0 0, .int .i64 0, .int .i64 0, .slice none 0 0], .slice none 0 0], []⟩ 8 (by kernel_rfl) (by kernel_rfl) (by kernel_rfl) (by kernel_rfl)) ?_
  intro W base args ds gs before hval0 hW hcnd hsz0 _
  have hval : ∀ (j : Nat) t v, Tryz.f10.params[j]? = some t → args[j]? = some v → Value.okWide Tryz.prog W .any base t v := hval0
  have hW' := hW
  obtain ⟨p, q, hA0, hV, rfl, hfz, hnd⟩ := hW
  have hA : DataW.TrodAll enc Tryz.prog W 0 (fun _ => true) true Tryz.f10.params.toList args.toList ds p := hA0
  rw [Tryz.params10] at hA hval
  obtain ⟨v0, vs0, d0, ds0, p0, q0, hargs, rfl, rfl, h0, r0⟩ := trodAll_cons hA
  obtain ⟨v1, vs1, d1, ds1, p1, q1, rfl, rfl, rfl, h1, r1⟩ := trodAll_cons r0
  obtain ⟨rfl, rfl, rfl⟩ := trodAll_nil r1
  obtain rfl : args = #[v0, v1] := by cases args; simp_all
  obtain ⟨rfl, rfl⟩ := trodVars_none hV
  obtain ⟨cs, rfl, hcs⟩ := okWide_struct Tryz.underlying31 (hval 0 31 v0 rfl rfl)
  have k0 := h0
  have lt0 : ∀ x ∈ p0, x.block < W.heap.size := by obtain ⟨m, hm⟩ := k0; exact DataW.trod_lt m _ _ _ hm
  obtain ⟨r, q, hcr, hq, hp⟩ : ∃ r q, cs.toList = (roomCs r q).toList ∧ RoomAt W W.heap.size r q ∧ CPl r.cop q.q := by
    obtain ⟨m, hm⟩ := k0
    exact open31 hm
  obtain rfl : cs = roomCs r q := Array.toList_inj.1 hcr
  obtain ⟨a1, len1, cap1, rfl⟩ := okWide_slice Tryz.underlying22 (hval 1 22 v1 rfl rfl)
  have k1 := h1
  have lt1 : ∀ x ∈ p1, x.block < W.heap.size := by obtain ⟨m, hm⟩ := k1; exact DataW.trod_lt m _ _ _ hm
  obtain ⟨a, xs, c, hcx, hpa, hx⟩ : ∃ a xs c, [Value.slice a1 len1 cap1] = [.slice a xs.length c] ∧ Pl a xs.length c ∧ IntsAt W W.heap.size a xs := by
    obtain ⟨m, hm⟩ := k1
    exact open22 hm
  simp only [List.cons.injEq, Value.slice.injEq, and_true] at hcx
  obtain ⟨rfl, rfl, rfl⟩ := hcx
  clear hA0 hval0 hsz0
  refine (bathCoal_c r q xs a1 cap1 W hq hp hx hpa).mono fun e W' ⟨he, bel⟩ => ?_
  subst he
  exact ⟨_, rfl, _, _, _, [], _, [], hW', trodAll_mk1 (shut_bool Tryz.underlying4 _), (trodAll_cons_mk (Below.trod laidOut (by kernel_rfl) (of_decide_eq_true (by kernel_rfl)) k0 bel lt0) (trodAll_cons_mk (Below.trod laidOut (by kernel_rfl) (of_decide_eq_true (by kernel_rfl)) k1 bel lt1) trodAll_mk0)), rfl, bel.frame _, fun h => by cases h⟩
theorem named : Tryz.pinned.checked.prog.funcNamed Rows.bathCoalRow.func = some 10 := by kernel_rfl
theorem isInst : Tryz.f10.isInstance Tryz.pinned.checked.prog Rows.bathCoalRow.origin Rows.bathCoalRow.targs := of_decide_eq_true (by kernel_rfl)
theorem isWrap : Tryz.f10.isWrapper Tryz.pinned.checked.prog Rows.bathCoalRow.wrapper Rows.bathCoalRow.mainSum := by
  unfold Func.isWrapper
  first | (rw [if_pos (by decide +kernel)]; kernel_rfl) | (rw [if_neg (by decide +kernel)]; exact ⟨rfl, rfl⟩)
theorem facts : joinedFacts Tryz.pinned.checked.prog 10 Tryz.f10 Rows.bathCoalSpec Rows.bathCoalRow = true := by kernel_rfl
theorem over : Rows.bathCoalRow.holds Tryz.pinned (OpenSpec.ofChange Rows.bathCoalSpec) :=
  OpenClaim.holds_of_wide 10 Tryz.f10 rfl rfl rfl rfl rfl rfl rfl ⟨rfl, rfl, rfl, rfl, rfl⟩ rfl rfl rfl rfl rfl named Tryz.func10 facts isInst isWrap
    (fun os started H enc _ => lifted os started H enc)
theorem proved : Rows.BathCoalSaid := over
#print axioms proved
end Go.Proofs.YtpgnplmjfhdncaaGreat.bathCoal
namespace Go.Proofs.YtpgnplmjfhdncaaGreat
/-- The row, under a short name, for the claim. -/
theorem bathCoal_holds : Rows.BathCoalSaid := bathCoal.proved
end Go.Proofs.YtpgnplmjfhdncaaGreat
