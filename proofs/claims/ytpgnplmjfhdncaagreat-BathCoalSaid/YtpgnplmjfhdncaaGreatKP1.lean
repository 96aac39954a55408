/- A range over an iterator that hands on what lies in memory. -/
import Derived.Test.YtpgnplmjfhdncaaGreatKRng
import Derived.RangeFuncNested
import Derived.RangeFuncBound
import Derived.RangeFuncCalls
import Derived.RangeFuncLeaves
import Derived.OwnWalkIn
import Derived.TacticsInMore
import Derived.LoopIn
import Derived.Test.YtpgnplmjfhdncaaGreatKM1
namespace Go.Proofs.YtpgnplmjfhdncaaGreat
open Go.RowKit
set_option linter.unusedVariables false
/-- What an iterator does: it gives what the list says, each as E tells, or up to a 'no more'. T: the blocks that it may change. Kp: what a round keeps. -/
def SeqE {α : Type} (N : Nat) (T : Nat → Prop) (Kp : World → World → Prop) (P : Program) (g : Nat) (lb : Array Value) (E : α → Array Value → World → Prop) (tot : List α) (Fn : World → Prop) (W : World) : Prop :=
  ∀ (l : Nat) (J Jx : List α → World → Prop), (∀ pre A B, J pre A → W.heap.size ≤ A.heap.size → Grown T A B → J pre B) →
    (∀ pre x vs W1, E x vs W1 → pre ++ [x] <+: tot → J pre W1 → N ≤ W1.heap.size → YieldAt Fence.wide 0 P l vs W1 fun e W' =>
      (e = .returned (.bool true) ∧ J (pre ++ [x]) W' ∧ Kp W1 W') ∨ (e = .returned (.bool false) ∧ Jx (pre ++ [x]) W')) →
    J [] W →
    CallsIn Fence.wide 0 P g (#[.func (.yield l) #[] #[]] ++ lb) W fun e W' => (∃ v, e = .returned v) ∧ ((J tot W' ∧ Fn W') ∨ (∃ pre, pre <+: tot ∧ Jx pre W'))

theorem wpIn_rangeE {P : Program} {α : Type} {g : Operand} {ps : Array Tmp} {assign body : Code} {Q : Exit → Act → World → Prop} {a : Act} {w : World} (N : Nat) (T : Nat → Prop) (Kp : World → World → Prop)
    {gf : Nat} {lb : Array Value} (hg : a.eval g = .func (.func gf) #[] lb) (eg : ∀ args w, (callFunc gf args).run P w = .ok (.enter gf args) w)
    {E : α → Array Value → World → Prop} {tot : List α} {Fn : World → Prop}
    (hFn : ∀ A B, Fn A → w.heap.size ≤ A.heap.size → Grown (fun k => k = w.heap.size + 1) A B → Fn B)
    (hseq : ∀ r, SeqE N T Kp P gf lb E tot Fn ((w.alloc (.deferred (some []))).alloc (.loop r)))
    (hT : ¬ T w.heap.size ∧ ¬ T (w.heap.size + 1))
    (hKt : ∀ {A B C : World}, Kp A B → Kp B C → Kp A C) (hKb : ∀ (W : World) (o : Obj), Kp W (W.putObj (w.heap.size + 1) o)) (hps : ∀ x vs W, E x vs W → vs.size = ps.size)
    (I : List α → World → Prop) (Ix : Code → List α → World → Prop)
    (hI : ∀ pre A B, I pre A → w.heap.size ≤ A.heap.size → Grown (fun k => T k ∨ k = w.heap.size + 1) A B → I pre B)
    (hIx : ∀ c pre A B, Ix c pre A → w.heap.size ≤ A.heap.size → Grown (fun k => k = w.heap.size + 1) A B → Ix c pre B) (h0 : I [] w)
    (a₁ : α → Act → World → Prop)
    (hassign : ∀ (l : Nat) (pre : List α) (x : α) (vs : Array Value) (W : World) (K : Act → World → Prop), E x vs W → w.heap.size + 2 ≤ W.heap.size → N ≤ W.heap.size → I pre W →
      (∀ a' W', W.heap.size ≤ W'.heap.size → (∀ k, k = w.heap.size ∨ k = w.heap.size + 1 → W'.heap[k]? = W.heap[k]?) → Kp W W' → I pre W' → a₁ x a' W' → K a' W') →
      assign.wpIn (Fence.wide.inRound l) 0 P (Exit.then K (fun _ _ _ => False)) { tmps := (ps.zip vs).foldl (fun t (p, v) => t.setIfInBounds p v) a.tmps, defers := [] } W)
    (ha₁ : ∀ x a' A B, a₁ x a' A → w.heap.size ≤ A.heap.size → Grown (fun k => k = w.heap.size + 1) A B → a₁ x a' B)
    (hbody : ∀ (l : Nat) (pre : List α) (x : α) (a' : Act) (W : World), pre ++ [x] <+: tot → w.heap.size + 2 ≤ W.heap.size → N ≤ W.heap.size → I pre W → a₁ x a' W → body.wpIn (Fence.wide.inRound l) 0 P (postT w.heap.size Kp I Ix (pre ++ [x]) W) a' W)
    (hdone : ∀ (W : World), I tot W → Fn W → W.heap[w.heap.size]? = some (.deferred (some [])) → Q .normal { a with defers := { target := .collected w.heap.size, args := #[] } :: a.defers } W)
    (hstop : ∀ (c : Code) (pre : List α) (W : World), pre <+: tot → Ix c pre W → W.heap[w.heap.size]? = some (.deferred (some [])) → c.wpIn Fence.wide 0 P Q { a with defers := { target := .collected w.heap.size, args := #[] } :: a.defers } W) :
    (Code.rangeFunc g ps assign body).wpIn Fence.wide 0 P Q a w := by
  refine wpIn_rangeFunc ?_
  intro fn hfn
  obtain ⟨rec, hrec⟩ : ∃ rec : LoopState → Option Code → Loop, rec = fun st pe => { state := st, pending := pe, fn, tmps := a.tmps, params := ps, assign, body, defers := w.heap.size } := ⟨_, rfl⟩
  obtain ⟨W1, hW1⟩ : ∃ W1, (w.alloc (.deferred (some []))).alloc (.loop (rec .ready none)) = W1 := ⟨_, rfl⟩
  have hL1 : W1.heap[w.heap.size + 1]? = some (.loop (rec .ready none)) := by
    rw [← hW1]; have := World.alloc_heap_new (w.alloc (.deferred (some []))) (.loop (rec .ready none)); rwa [World.size_alloc] at this
  have hK1 : W1.heap[w.heap.size]? = some (.deferred (some [])) := by
    rw [← hW1]; exact (Below.heap_alloc _ _ _ (by simp)).trans (World.alloc_heap_new w _)
  have hs1 : W1.heap.size = w.heap.size + 2 := by rw [← hW1]; simp
  have hI1 : I [] W1 := by rw [← hW1]; exact hI _ _ _ h0 (Nat.le_refl _) (Grown.bl (bl_al (bl_al (Below.refl _ _) _) _))
  refine ⟨w.heap.size + 1, [{ target := .collected w.heap.size, args := #[] }], W1, { target := .fn (.func gf) lb, args := #[.func (.yield (w.heap.size + 1)) #[] #[]] }, W1, gf,
    #[.func (.yield (w.heap.size + 1)) #[] #[]] ++ lb, W1, ?_, ?_, ?_, ?_, fun h => by simp [Fence.wide] at h, ?_⟩
  · rw [← hW1, hrec]; exact run_enterLoop_outer _ _ _ _ _
  · simp only [resolve, hg]
    simp [go_sem]
  · intro f' hf'; trivial
  · simp [invoke, go_sem, eg]
  · refine ((by have := hseq (rec .ready none); rw [hW1] at this; exact this : SeqE N T Kp P gf lb E tot Fn W1) (w.heap.size + 1)
      (fun pre W => I pre W ∧ w.heap.size + 2 ≤ W.heap.size ∧ W.heap[w.heap.size + 1]? = some (.loop (rec .ready none)) ∧ W.heap[w.heap.size]? = some (.deferred (some [])))
      (fun pre W => ∃ c, Ix c pre W ∧ w.heap.size + 2 ≤ W.heap.size ∧ W.heap[w.heap.size + 1]? = some (.loop (rec .done (some c))) ∧ W.heap[w.heap.size]? = some (.deferred (some [])))
      (fun pre A B hs hsz hgr => ⟨hI pre A B hs.1 (by omega) (hgr.mono fun k _ t => .inl t), Nat.le_trans hs.2.1 hgr.size, (hgr.block _ (by omega) hT.2).trans hs.2.2.1, (hgr.block _ (by omega) hT.1).trans hs.2.2.2⟩)
      ?_ ⟨hI1, by omega, hL1, hK1⟩).mono ?_
    · rintro pre x vs W hE hpx ⟨hi, hsz, hl, hk⟩ hN
      have hy := run_yield (P := P) (args := vs) hl (by rw [hrec]; exact hps x vs W hE)
      rw [hrec] at hy
      refine ⟨fn, _, assign, body, hy, roundIn_of_wpIn hfn (hassign _ pre x vs W _ hE hsz hN hi ?_)⟩
      intro a' W' hWW hkk hkp hi' ha'
      have hl' := (hkk _ (.inr rfl)).trans hl
      have hk' := (hkk _ (.inl rfl)).trans hk
      refine ⟨_, run_beginRound hl' (by rw [hrec]), ?_⟩
      have hsz' : w.heap.size + 2 ≤ W'.heap.size := by have := (Array.getElem?_eq_some_iff.1 hl').1; omega
      have hl2 : (W'.putObj (w.heap.size + 1) (.loop { rec .ready none with state := .busy })).heap[w.heap.size + 1]? = some (.loop { rec .ready none with state := .busy }) := World.putObj_heap_same (by omega)
      have hk2 : (W'.putObj (w.heap.size + 1) (.loop { rec .ready none with state := .busy })).heap[w.heap.size]? = some (.deferred (some [])) := (World.putObj_heap_other (by omega)).trans hk'
      have hput : ∀ (X : World) (o : Obj), Grown (fun k => k = w.heap.size + 1) X (X.putObj (w.heap.size + 1) o) := fun X o => (Grown.refl (fun k => k = w.heap.size + 1) X).putObj (l := w.heap.size + 1) (.inl rfl) o
      have hszp : w.heap.size + 2 ≤ (W'.putObj (w.heap.size + 1) (.loop { rec .ready none with state := .busy })).heap.size := Nat.le_trans hsz' (hput W' _).size
      refine wpIn_mono (hbody _ pre x a' _ hpx hszp (Nat.le_trans (Nat.le_trans hN hWW) (hput W' _).size) (hI _ _ _ hi' (by omega) ((hput W' _).mono fun k _ t => .inr t)) (ha₁ _ _ _ _ ha' (by omega) (hput W' _))) ?_
      have fin : ∀ (jump : Option Code) (W3 : World), (∀ k, k = w.heap.size ∨ k = w.heap.size + 1 → W3.heap[k]? = (W'.putObj (w.heap.size + 1) (.loop { rec .ready none with state := .busy })).heap[k]?) →
          (Instr.endRound (w.heap.size + 1) jump).run P W3 = .ok (.bool jump.isNone) (W3.putObj (w.heap.size + 1) (.loop (rec (if jump.isNone then .ready else .done) jump))) ∧
          w.heap.size + 2 ≤ W3.heap.size ∧
          (W3.putObj (w.heap.size + 1) (.loop (rec (if jump.isNone then .ready else .done) jump))).heap[w.heap.size + 1]? = some (.loop (rec (if jump.isNone then .ready else .done) jump)) ∧
          (W3.putObj (w.heap.size + 1) (.loop (rec (if jump.isNone then .ready else .done) jump))).heap[w.heap.size]? = some (.deferred (some [])) := fun jump W3 hk3 => by
        have hl3 := (hk3 _ (.inr rfl)).trans hl2
        have := run_endRound (P := P) jump hl3
        rw [hrec] at this ⊢
        exact ⟨this, by have := (Array.getElem?_eq_some_iff.1 hl3).1; omega, World.putObj_heap_same (Array.getElem?_eq_some_iff.1 hl3).1, (World.putObj_heap_other (by omega)).trans ((hk3 _ (.inl rfl)).trans hk2)⟩
      rintro e a3 W3 hp
      cases e with
      | normal =>
        obtain ⟨hk3, hkp3, hi3⟩ := hp
        obtain ⟨hr, hs3, hl4, hk4⟩ := fin none W3 hk3
        exact ⟨_, _, hr, .inl ⟨rfl, ⟨hI _ _ _ hi3 (by omega) ((hput W3 _).mono fun k _ t => .inr t), Nat.le_trans hs3 (hput W3 _).size, hl4, hk4⟩, hKt (hKt (hKt hkp (hKb _ _)) hkp3) (hKb _ _)⟩⟩
      | ret =>
        obtain ⟨hk3, hi3⟩ := hp
        obtain ⟨hr, hs3, hl4, hk4⟩ := fin (some .ret) W3 hk3
        exact ⟨_, _, hr, .inr ⟨rfl, .ret, hIx _ _ _ _ hi3 (by omega) (hput W3 _), Nat.le_trans hs3 (hput W3 _).size, hl4, hk4⟩⟩
      | exit id =>
        obtain ⟨hk3, hi3⟩ := hp
        obtain ⟨hr, hs3, hl4, hk4⟩ := fin (some (.exit id)) W3 hk3
        exact ⟨_, _, hr, .inr ⟨rfl, .exit id, hIx _ _ _ _ hi3 (by omega) (hput W3 _), Nat.le_trans hs3 (hput W3 _).size, hl4, hk4⟩⟩
      | goto t => exact hp.elim
      | panic ch => exact hp.elim
      | outgrown => exact hp.elim
    · have hput : ∀ (X : World) (o : Obj), Grown (fun k => k = w.heap.size + 1) X (X.putObj (w.heap.size + 1) o) := fun X o => (Grown.refl (fun k => k = w.heap.size + 1) X).putObj (l := w.heap.size + 1) (.inl rfl) o
      rintro e W2 ⟨⟨v, rfl⟩, (⟨⟨hi, hsz, hl, hk⟩, hfn2⟩ | ⟨pre, hSp, c, hi, hsz, hl, hk⟩)⟩
      · exact ⟨none, _, by have := run_endLoop (P := P) hl (by rw [hrec]; simp); rw [hrec] at this; exact this, hdone _ (hI _ _ _ hi (by omega) ((hput W2 _).mono fun k _ t => .inr t)) (hFn _ _ hfn2 (by omega) (hput W2 _)) ((World.putObj_heap_other (by omega)).trans hk)⟩
      · exact ⟨some c, _, by have := run_endLoop (P := P) hl (by rw [hrec]; simp); rw [hrec] at this; exact this, hstop c pre _ hSp (hIx c _ _ _ hi (by omega) (hput W2 _)) ((World.putObj_heap_other (by omega)).trans hk)⟩
end Go.Proofs.YtpgnplmjfhdncaaGreat
/- The iterator of plans: what lies where; all baths are placed. -/
namespace Go.Proofs.YtpgnplmjfhdncaaGreat
open Go.RowKit
attribute [local go_sem] Oper.semAt_some
set_option linter.unusedVariables false
/-- The sure plans of the baths from one on but those out, that begin so. -/
def plansF (r : Rm) (out : List Int) : Nat → Nat → List Int → List Int → List (List Int)
  | 0, _, plan, n => if sureB r n = true then [plan] else []
  | d + 1, i, plan, n =>
    if hasI (i : Int) out = true then plansF r out d (i + 1) plan n
    else (List.range (p2 r.baths i - p1 r.baths i + 1).toNat).flatMap fun (k : Nat) =>
      if canB r (addAt n (p1 r.baths i + (k : Int)).toNat 1) = true then plansF r out d (i + 1) (plan ++ [p1 r.baths i + (k : Int)]) (addAt n (p1 r.baths i + (k : Int)).toNat 1) else []
/-- The iterator at work: the work's address in pb, the yield in n0, what is out in po, its inner function in n0 + 1. -/
structure PlLay (r : Rm) (q : RA) (B wb m : Nat) (out : List Int) (aO : Option Addr) (kO l n0 pb po : Nat) (W : World) : Prop where
  bw : BW r q B wb m W
  pw : Box W pb #[.pointer (some ⟨wb, 0, none⟩)]
  yl : Box W n0 #[.func (.yield l) #[] #[]]
  pob : Box W po #[.slice aO out.length kO]
  ch : Box W (n0 + 1) #[.func (.func 134) #[] #[.pointer (some ⟨pb, 0, none⟩), .pointer (some ⟨n0, 0, none⟩), .pointer (some ⟨po, 0, none⟩), .pointer (some ⟨n0 + 1, 0, none⟩)]]
  outs : IntsAt W n0 aO out
/-- The blocks are apart; L: what a round may change. -/
structure PlSep (B wb m n0 pb po : Nat) (aO : Option Addr) (L : List Nat) : Prop where
  b1 : wb < n0
  b2 : pb < n0
  b3 : po < n0
  m1 : m ≠ pb
  m2 : m ≠ po
  m3 : ∀ b o, aO = some ⟨b, o, none⟩ → b ≠ m
  l1 : ∀ k ∈ L, k < n0 ∧ B ≤ k ∧ k ≠ m ∧ k ≠ wb ∧ k ≠ pb ∧ k ≠ po
  l2 : ∀ b o, aO = some ⟨b, o, none⟩ → b ∉ L
theorem Box.ex {L : List Nat} {w W : World} {b : Nat} {cs : Array Value} (h : Box w b cs) (hc : 0 < cs.size) (he : Ext L w W) (hb : b ∉ L) : Box W b cs := h.ext he (h.lt hc) hb
theorem IntsAt.ex {L : List Nat} {w W : World} {B : Nat} {a : Option Addr} {xs : List Int} (h : IntsAt w B a xs) (he : Ext L w W) (hb : ∀ b o, a = some ⟨b, o, none⟩ → b ∉ L) : IntsAt W B a xs := by
  rcases h with h | ⟨b, o, e, hlt, hc⟩
  · exact .inl h
  · exact .inr ⟨b, o, e, hlt, fun j hj => (he.cell (World.block_lt_of_cell? w _ (hc j hj)) (hb b o e)).trans (hc j hj)⟩
theorem BW.exL {r : Rm} {q : RA} {B wb m : Nat} {L : List Nat} {w W : World} (h : BW r q B wb m w) (he : Ext L w W) (h1 : m ∉ L) (h2 : wb ∉ L) (hB : ∀ k ∈ L, B ≤ k) : BW r q B wb m W := by
  obtain ⟨es, cl, a, b⟩ := h.memo
  exact ⟨h.ok, (he.block _ h.lt h2).trans h.cells, ⟨es, cl, (he.block _ (Array.getElem?_eq_some_iff.1 a).1 h1).trans a, b⟩, h.at_.below (he.below (by have := h.lt; have := h.bm; have := h.wbm; omega) hB), h.bm, h.wbm⟩
section
variable {r : Rm} {q : RA} {B wb m : Nat} {out : List Int} {aO : Option Addr} {kO l n0 pb po : Nat} {L : List Nat} {w W : World}
theorem PlLay.up (h : PlLay r q B wb m out aO kO l n0 pb po w) (hb : Below w.heap.size w W) : PlLay r q B wb m out aO kO l n0 pb po W :=
  ⟨h.bw.up hb, h.pw.bl (by simp) hb, h.yl.bl (by simp) hb, h.pob.bl (by simp) hb, h.ch.bl (by simp) hb, h.outs.ex (L := []) (Ext.of_below hb) (fun _ _ _ => by simp)⟩
theorem PlLay.sure (h : PlLay r q B wb m out aO kO l n0 pb po w) (hs : PlSep B wb m n0 pb po aO L) (hw : BW r q B wb m W) (he : Ext [m] w W) : PlLay r q B wb m out aO kO l n0 pb po W := by
  have hm : m < n0 := by have := h.bw.wbm; have := hs.b1; omega
  exact ⟨hw, h.pw.ex (by simp) he (by have := hs.m1; simp; omega), h.yl.ex (by simp) he (by simp; omega), h.pob.ex (by simp) he (by have := hs.m2; simp; omega), h.ch.ex (by simp) he (by simp; omega), h.outs.ex he (fun b o e => by have := hs.m3 b o e; simpa using this)⟩
theorem PlLay.round (h : PlLay r q B wb m out aO kO l n0 pb po w) (hs : PlSep B wb m n0 pb po aO L) (he : Ext L w W) : PlLay r q B wb m out aO kO l n0 pb po W := by
  have hl := hs.l1
  refine ⟨h.bw.exL he (fun hk => (hl _ hk).2.2.1 rfl) (fun hk => (hl _ hk).2.2.2.1 rfl) (fun k hk => (hl _ hk).2.1), h.pw.ex (by simp) he (fun hk => (hl _ hk).2.2.2.2.1 rfl), h.yl.ex (by simp) he (fun hk => by have := (hl _ hk).1; omega), h.pob.ex (by simp) he (fun hk => (hl _ hk).2.2.2.2.2 rfl), h.ch.ex (by simp) he (fun hk => by have := (hl _ hk).1; omega), h.outs.ex he hs.l2⟩
end
/-- What is handed on: a slice at which the plan lies. -/
def PlanE (r : Rm) (q : RA) (B wb m n0 : Nat) (x : List Int) (vs : Array Value) (W : World) : Prop := (∃ a k, vs = #[.slice a x.length k] ∧ IntsAt W W.heap.size a x ∧ ∀ b o, a = some ⟨b, o, none⟩ → n0 ≤ b) ∧ BW r q B wb m W
theorem grown_of_ext {T : Nat → Prop} {L : List Nat} {w W : World} (h : Ext L w W) (hT : ∀ k ∈ L, T k) : Grown T w W := ⟨h.os, h.tape, h.output, h.size, fun k hk hn => h.block k hk (fun hm => hn (hT k hm))⟩
end Go.Proofs.YtpgnplmjfhdncaaGreat
/- The iterator of plans: all baths are placed. -/
namespace Go.Proofs.YtpgnplmjfhdncaaGreat
open Go.RowKit
attribute [local go_sem] Oper.semAt_some
set_option linter.unusedVariables false
set_option maxRecDepth 100000 in
set_option maxHeartbeats 8000000 in
theorem plan_leaf (r : Rm) (q : RA) (B wb m : Nat) (out : List Int) (aO : Option Addr) (kO l n0 pb po : Nat) (L : List Nat) (tot : List (List Int)) (J Jx : List (List Int) → World → Prop) (hs : PlSep B wb m n0 pb po aO L)
    (hJ : ∀ pre A B', J pre A → n0 ≤ A.heap.size → Grown (fun k => k = m ∨ (n0 ≤ k ∧ k < n0 + 2)) A B' → J pre B')
    (hY : ∀ pre (x : List Int) vs W1, PlanE r q B wb m n0 x vs W1 → pre ++ [x] <+: tot → J pre W1 → n0 + 2 ≤ W1.heap.size → YieldAt Fence.wide 0 Tryz.prog l vs W1 fun e W' =>
      (e = .returned (.bool true) ∧ J (pre ++ [x]) W' ∧ Ext L W1 W') ∨ (e = .returned (.bool false) ∧ Jx (pre ++ [x]) W'))
    (plan n : List Int) (a : Option Addr) (k i : Nat) (done : List (List Int)) (W : World) (hi : i = r.baths.length) (hsz : n0 + 2 ≤ W.heap.size) (hlay : PlLay r q B wb m out aO kO l n0 pb po W) (ha : IntsAt W W.heap.size a plan) (hab : ∀ b o, a = some ⟨b, o, none⟩ → n0 + 2 ≤ b) (hn : ∀ j, 0 ≤ nth n j ∧ nth n j ≤ 100) (hj : J done W) (htot : done ++ plansF r out 0 i plan n <+: tot) :
    Calls Tryz.prog 134 #[.slice a plan.length k, nv n, .int .i64 i, .pointer (some ⟨pb, 0, none⟩), .pointer (some ⟨n0, 0, none⟩), .pointer (some ⟨po, 0, none⟩), .pointer (some ⟨n0 + 1, 0, none⟩)] W fun e W' =>
        (e = .returned (.bool true) ∧ PlLay r q B wb m out aO kO l n0 pb po W' ∧ Ext (m :: L) W W' ∧ J (done ++ plansF r out 0 i plan n) W') ∨ (e = .returned (.bool false) ∧ ∃ r', r' <+: plansF r out 0 i plan n ∧ Jx (done ++ r') W') := by
  subst hi
  have HLAY := Lib.hid hlay
  have HS := Lib.hid hs
  have HJJ := Lib.hid hj
  have HJ := Lib.hid hJ
  have HY := Lib.hid hY
  have HN := Lib.hid hn
  have HA := Lib.hid ha
  have HTOT := Lib.hid htot
  have HAB := Lib.hid hab
  have hpw : W.cell? ⟨pb, 0, none⟩ = some (.pointer (some ⟨wb, 0, none⟩)) := hlay.pw 0
  have hw13 : W.cell? ⟨wb, 13, none⟩ = some (.slice q.a5 r.baths.length q.c5) := by simp [World.cell?, hlay.bw.cells]
  have hyl : W.cell? ⟨n0, 0, none⟩ = some (.func (.yield l) #[] #[]) := hlay.yl 0
  clear hlay hs hj hJ hY hn ha htot hab
  cases hsu : sureB r n with
  | false =>
    have HSU := Lib.hid hsu
    have HPF : Hid (plansF r out 0 r.baths.length plan n = []) := by unfold Hid plansF; rw [if_neg (by rw [hsu]; simp)]
    clear hsu
    go_enter Tryz.func134, Tryz.ntmps134
    go_wp2_with (first | (go_at_call 98; go_loud (refine (sureR_c r q B wb m n _ (HLAY.out.bw.up (bl_al (Below.refl _ _) _)) HN.out).mono ?_; rw [HSU.out]; rintro e w6 ⟨rfl, hbw, hext⟩; have HLAY6 : Hid (PlLay r q B wb m out aO kO l n0 pb po w6) := (HLAY.out.up (bl_al (Below.refl _ _) _)).sure HS.out hbw hext; have HX6 : Hid (Ext [m] (W.alloc (.cells (nvs n) 115)) w6) := hext;  clear hbw hext)))
    go_ret
    refine .inl ⟨rfl, HLAY6.out, ?_, ?_⟩
    · exact ((Ext.refl (m :: L) W).alloc _).trans (HX6.out.mono (fun x _ hx => by simp at hx; simp [hx]))
    · rw [HPF.out, List.append_nil]
      exact HJ.out _ _ _ HJJ.out (by omega) (((Grown.refl _ W).alloc _).trans (grown_of_ext HX6.out (fun x hx => .inl (by simpa using hx))))
  | true =>
    have HSU := Lib.hid hsu
    have HPF : Hid (plansF r out 0 r.baths.length plan n = [plan]) := by unfold Hid plansF; rw [if_pos hsu]
    clear hsu
    refine callsIn_wide.1 (callsIn_of_wp (n := 0) Tryz.func134 rfl trivial ?_ rfl)
    simp only [Tryz.ntmps134, List.size_toArray, List.length_cons, List.length_nil, Nat.reduceAdd, Nat.reduceSub, Array.replicate_succ, Array.replicate_zero, List.push_toArray, List.append_toArray, List.nil_append, List.cons_append]
    gi_wp2
    refine ⟨trivial, rfl, callsIn_wide.2 ((sureR_c r q B wb m n _ (HLAY.out.bw.up (bl_al (Below.refl _ _) _)) HN.out).mono ?_)⟩
    rw [HSU.out]
    rintro e w6 ⟨rfl, hbw, hext⟩
    have HLAY6 : Hid (PlLay r q B wb m out aO kO l n0 pb po w6) := (HLAY.out.up (bl_al (Below.refl _ _) _)).sure HS.out hbw hext
    have HX6 : Hid (Ext [m] (W.alloc (.cells (nvs n) 115)) w6) := hext
    have hmn : m < n0 := by have := HLAY.out.bw.wbm; have := HS.out.b1; omega
    have HEX6 : Hid (Ext (m :: L) W w6) := ((Ext.refl (m :: L) W).alloc _).trans (HX6.out.mono (fun x _ hx => by simp at hx; simp [hx]))
    have HJ6 : Hid (J done w6) := HJ.out _ _ _ HJJ.out (by omega) (((Grown.refl _ W).alloc _).trans (grown_of_ext HX6.out (fun x hx => .inl (by simpa using hx))))
    have HA6 : Hid (IntsAt w6 w6.heap.size a plan) := ((HA.out.up (bl_al (Below.refl _ _) (.cells (nvs n) 115))).ex hext (fun b o e => by have := HAB.out b o e; simp; omega)).mono hext.size
    have hs6 : n0 + 2 ≤ w6.heap.size := Nat.le_trans hsz HEX6.out.size
    obtain ⟨fn, tmps, assign, body, hy, hR⟩ := HY.out done plan _ w6 ⟨⟨a, k, rfl, HA6.out, fun b o e => by have := HAB.out b o e; omega⟩, HLAY6.out.bw⟩ (by have := HTOT.out; rw [HPF.out] at this; exact this) HJ6.out hs6
    have hyl6 : w6.cell? ⟨n0, 0, none⟩ = some (.func (.yield l) #[] #[]) := HLAY6.out.yl 0

    clear hbw hext hpw hw13 hyl
    gi_wp2
    refine ⟨rfl, hR.mono ?_⟩
    rintro e W3 (⟨rfl, hJ3, hk3⟩ | ⟨rfl, hJx3⟩)
    · have HJ3 := Lib.hid hJ3
      have HK3 := Lib.hid hk3
      clear hJ3 hk3
      gi_wp2
      go_ret
      refine .inl ⟨rfl, HLAY6.out.round HS.out HK3.out, HEX6.out.trans (HK3.out.mono (fun x _ hx => by simp [hx])), ?_⟩
      rw [HPF.out]
      exact HJ3.out
    · have HJ3 := Lib.hid hJx3
      clear hJx3
      gi_wp2
      go_ret
      exact .inr ⟨rfl, _, List.prefix_refl _, by rw [HPF.out]; exact HJ3.out⟩
end Go.Proofs.YtpgnplmjfhdncaaGreat
/- The iterator of plans: the region that goes on with one hour. -/
namespace Go.Proofs.YtpgnplmjfhdncaaGreat
open Go.RowKit
set_option linter.unusedVariables false
theorem tmp_bool {t : Option Value} {b : Bool} (h : t.getD undef = .bool b) : t = some (.bool b) := by
  cases t with
  | none => cases h
  | some v => exact congrArg some h
structure J134 (r : Rm) (q : RA) (wb m xb pb n0 po : Nat) (a : Option Addr) (k : Nat) (plan x : List Int) (h : Int) (i : Nat) (R : Bool → World → Prop) (W : World) (A1 : Option Addr) (K1 : Nat) (A2 : Option Addr) (K2 : Nat) (bb : Bool) (done : Nat → Bool) (s : Nat → Value) (w : World) : Prop where
  gr : done 16 = false → Below W.heap.size W w
  rr : done 16 = true → R bb w
  a0 : done 0 = true → s 67 = .pointer (some ⟨wb, 0, none⟩)
  a1 : done 1 = true → s 68 = .pointer (some ⟨wb, 0, none⟩)
  a2 : done 2 = true → s 69 = .pointer (some ⟨wb, 0, none⟩)
  a3 : done 3 = true → s 70 = roomV r q
  a4 : done 4 = true → s 71 = nv x
  a5 : done 5 = true → s 72 = .bool true
  a6 : done 6 = true → s 73 = .bool true
  a7 : done 7 = true → s 74 = .func (.func 134) #[] #[.pointer (some ⟨pb, 0, none⟩), .pointer (some ⟨n0, 0, none⟩), .pointer (some ⟨po, 0, none⟩), .pointer (some ⟨n0 + 1, 0, none⟩)]
  a8 : done 8 = true → s 75 = .slice a plan.length k
  a9 : done 9 = true → s 76 = .slice A1 plan.length K1
  a10 : done 10 = true → s 77 = .int .i64 h
  a12 : done 12 = true → s 79 = .slice A2 (plan.length + 1) K2
  a13 : done 13 = true → s 80 = nv x
  a14 : done 14 = true → s 81 = .int .i64 i
  a15 : done 15 = true → s 82 = .int .i64 ((i : Int) + 1)
  a16 : done 16 = true → s 83 = .bool bb
  a17 : done 17 = true → s 84 = .bool (!bb)
  a18 : done 18 = true → s 85 = .bool (!bb)
  f9 : done 9 = true → done 12 = false → w.ownsRow W.heap.size 3 1 (.slice A1 plan.length K1) plan.length (ints plan)
  bu : done 11 = true → done 12 = false → ∃ b, s 78 = .slice (some ⟨b, 0, none⟩) 1 1 ∧ W.heap.size ≤ b ∧ w.heap[b]? = some (.cells #[.int .i64 h] 3 (0, 0))
  f12 : done 12 = true → done 16 = false → w.ownsRow W.heap.size 3 1 (.slice A2 (plan.length + 1) K2) (plan.length + 1) (ints (plan ++ [h]))
def I134 (a0 : Act) (r : Rm) (q : RA) (wb m xb pb n0 po : Nat) (a : Option Addr) (k : Nat) (plan x : List Int) (h : Int) (i : Nat) (R : Bool → World → Prop) (W : World) (done : Nat → Bool) (ac : Act) (w : World) : Prop :=
  ∃ (A1 : Option Addr) (K1 : Nat) (A2 : Option Addr) (K2 : Nat) (bb : Bool), Fr 67 85 a0 ac ∧ J134 r q wb m xb pb n0 po a k plan x h i R W A1 K1 A2 K2 bb done (slots ac) w
theorem I134.put {a0 : Act} {r : Rm} {q : RA} {wb m xb pb n0 po : Nat} {a : Option Addr} {k : Nat} {plan x : List Int} {h : Int} {i : Nat} {R : Bool → World → Prop} {W : World} {A1 : Option Addr} {K1 : Nat} {A2 : Option Addr} {K2 : Nat} {bb : Bool} {done : Nat → Bool} {ac : Act} {w : World} (j : Nat) (u : Value)
    (hF : Fr 67 85 a0 ac) (h0 : 85 < a0.tmps.size) (h1 : 67 ≤ j) (h2 : j ≤ 85) (hJ : J134 r q wb m xb pb n0 po a k plan x h i R W A1 K1 A2 K2 bb done (upd (slots ac) j u) w) :
    I134 a0 r q wb m xb pb n0 po a k plan x h i R W done { tmps := ac.tmps.setIfInBounds j u, defers := ac.defers } w :=
  ⟨A1, K1, A2, K2, bb, hF.put j u h1 h2 h0, by rw [slots_put ac j u (by rw [hF.sz]; omega)]; exact hJ⟩
set_option maxRecDepth 100000 in
set_option maxHeartbeats 8000000 in
theorem r134 (ops : List Oper) (hops : Tryz.f134.body.bind (regionIn 10) = some ops) {Q : Exit → Act → World → Prop} (a0 : Act) (r : Rm) (q : RA) (wb m xb pb n0 po : Nat) (a : Option Addr) (k : Nat) (plan x : List Int) (h : Int) (i : Nat) (R : Bool → World → Prop) (W : World)
    (hsz : a0.tmps.size = 86) (s0 : slots a0 0 = .slice a plan.length k) (s2 : slots a0 2 = .int .i64 i) (s3 : slots a0 3 = .pointer (some ⟨pb, 0, none⟩)) (s6 : slots a0 6 = .pointer (some ⟨n0 + 1, 0, none⟩)) (s11 : slots a0 11 = .int .i64 h) (s12 : slots a0 12 = .pointer (some ⟨xb, 0, none⟩))
    (hpb : Box W pb #[.pointer (some ⟨wb, 0, none⟩)]) (hwb : Box W wb (bwCs r q m)) (hxb : Box W xb (nvs x)) (hch : Box W (n0 + 1) #[.func (.func 134) #[] #[.pointer (some ⟨pb, 0, none⟩), .pointer (some ⟨n0, 0, none⟩), .pointer (some ⟨po, 0, none⟩), .pointer (some ⟨n0 + 1, 0, none⟩)]]) (hi : i ≤ 1000) (hpl : plan.length ≤ 1000)
    (hc127 : ∀ w, Below W.heap.size W w → Calls Tryz.prog 127 #[roomV r q, nv x] w fun e w' => e = .returned (.bool true) ∧ Below w.heap.size w w')
    (hc101 : ∀ w, Below W.heap.size W w → Calls Tryz.prog 101 #[.slice a plan.length k] w fun e w' => ∃ A1 K1, e = .returned (.slice A1 plan.length K1) ∧ w'.ownsRow w.heap.size 3 1 (.slice A1 plan.length K1) plan.length (ints plan) ∧ Below w.heap.size w w')
    (hc16 : ∀ A2 K2 w, Below W.heap.size W w → w.ownsRow W.heap.size 3 1 (.slice A2 (plan.length + 1) K2) (plan.length + 1) (ints (plan ++ [h])) → Calls Tryz.prog 134 #[.slice A2 (plan.length + 1) K2, nv x, .int .i64 ((i : Int) + 1), .pointer (some ⟨pb, 0, none⟩), .pointer (some ⟨n0, 0, none⟩), .pointer (some ⟨po, 0, none⟩), .pointer (some ⟨n0 + 1, 0, none⟩)] w fun e w' => ∃ bb, e = .returned (.bool bb) ∧ R bb w')
    (hQ : ∀ ac w bb, Fr 67 85 a0 ac → slots ac 85 = .bool (!bb) → R bb w → Q .normal ac w) :
    (Code.region 10 ops.toArray true).wp Tryz.prog Q a0 W := by
  simp only [Tryz.f134, regionIn, Option.bind_some] at hops
  simp at hops
  subst hops
  have F := Lib.hid info3
  refine wp_region_inv (I134 a0 r q wb m xb pb n0 po a k plan x h i R W) tryz_mixed (by kernel_rfl) ⟨none, 0, none, 0, true, Fr.refl _ _ _, ?_⟩ ?_ ?_
  · exact { gr := fun _ => bl_dr (Below.refl _ _), rr := fun h => (by cases h), f9 := fun h => (by cases h), bu := fun h => (by cases h), f12 := fun h => (by cases h), a0 := fun h => (by cases h), a1 := fun h => (by cases h), a2 := fun h => (by cases h), a3 := fun h => (by cases h), a4 := fun h => (by cases h), a5 := fun h => (by cases h), a6 := fun h => (by cases h), a7 := fun h => (by cases h), a8 := fun h => (by cases h), a9 := fun h => (by cases h), a10 := fun h => (by cases h), a12 := fun h => (by cases h), a13 := fun h => (by cases h), a14 := fun h => (by cases h), a15 := fun h => (by cases h), a16 := fun h => (by cases h), a17 := fun h => (by cases h), a18 := fun h => (by cases h) }
  · refine ⟨?_, ?_, ?_, ?_, ?_, ?_, ?_, ?_, ?_, ?_, ?_, ?_, ?_, ?_, ?_, ?_, ?_, ?_, ?_, trivial⟩
    · rintro done ac w hcl hdn hdep ⟨A1, K1, A2, K2, bb, hF, hJ⟩ K hK
      have y3 : ac.tmps[3]?.getD undef = .pointer (some ⟨pb, 0, none⟩) := (hF.same 3 (by omega)).trans s3
      have h1 : done 1 = false := by
        cases h' : done 1 with
        | false => rfl
        | true => have := hcl 1 _ rfl h' ⟨0, .data⟩ (by simp) rfl; rw [hdn] at this; cases this
      have h2 : done 2 = false := by
        cases h' : done 2 with
        | false => rfl
        | true => have := hcl 2 _ rfl h' ⟨1, .data⟩ (by simp) rfl; rw [h1] at this; cases this
      have h3 : done 3 = false := by
        cases h' : done 3 with
        | false => rfl
        | true => have := hcl 3 _ rfl h' ⟨2, .data⟩ (by simp) rfl; rw [h2] at this; cases this
      have h5 : done 5 = false := by
        cases h' : done 5 with
        | false => rfl
        | true => have := hcl 5 _ rfl h' ⟨3, .data⟩ (by simp) rfl; rw [h3] at this; cases this
      have h6 : done 6 = false := by
        cases h' : done 6 with
        | false => rfl
        | true => have := hcl 6 _ rfl h' ⟨5, .data⟩ (by simp) rfl; rw [h5] at this; cases this
      have h7 : done 7 = false := by
        cases h' : done 7 with
        | false => rfl
        | true => have := hcl 7 _ rfl h' ⟨6, .guard⟩ (by simp) rfl; rw [h6] at this; cases this
      have h8 : done 8 = false := by
        cases h' : done 8 with
        | false => rfl
        | true => have := hcl 8 _ rfl h' ⟨6, .guard⟩ (by simp) rfl; rw [h6] at this; cases this
      have h9 : done 9 = false := by
        cases h' : done 9 with
        | false => rfl
        | true => have := hcl 9 _ rfl h' ⟨8, .data⟩ (by simp) rfl; rw [h8] at this; cases this
      have h10 : done 10 = false := by
        cases h' : done 10 with
        | false => rfl
        | true => have := hcl 10 _ rfl h' ⟨6, .guard⟩ (by simp) rfl; rw [h6] at this; cases this
      have h11 : done 11 = false := by
        cases h' : done 11 with
        | false => rfl
        | true => have := hcl 11 _ rfl h' ⟨10, .data⟩ (by simp) rfl; rw [h10] at this; cases this
      have h12 : done 12 = false := by
        cases h' : done 12 with
        | false => rfl
        | true => have := hcl 12 _ rfl h' ⟨9, .data⟩ (by simp) rfl; rw [h9] at this; cases this
      have h13 : done 13 = false := by
        cases h' : done 13 with
        | false => rfl
        | true => have := hcl 13 _ rfl h' ⟨6, .guard⟩ (by simp) rfl; rw [h6] at this; cases this
      have h14 : done 14 = false := by
        cases h' : done 14 with
        | false => rfl
        | true => have := hcl 14 _ rfl h' ⟨6, .guard⟩ (by simp) rfl; rw [h6] at this; cases this
      have h15 : done 15 = false := by
        cases h' : done 15 with
        | false => rfl
        | true => have := hcl 15 _ rfl h' ⟨14, .data⟩ (by simp) rfl; rw [h14] at this; cases this
      have h16 : done 16 = false := by
        cases h' : done 16 with
        | false => rfl
        | true => have := hcl 16 _ rfl h' ⟨7, .data⟩ (by simp) rfl; rw [h7] at this; cases this
      have h17 : done 17 = false := by
        cases h' : done 17 with
        | false => rfl
        | true => have := hcl 17 _ rfl h' ⟨16, .data⟩ (by simp) rfl; rw [h16] at this; cases this
      have h18 : done 18 = false := by
        cases h' : done 18 with
        | false => rfl
        | true => have := hcl 18 _ rfl h' ⟨6, .data⟩ (by simp) rfl; rw [h6] at this; cases this
      have c0 : w.cell? ⟨pb, 0, none⟩ = some (.pointer (some ⟨wb, 0, none⟩)) := ((hJ.gr h16).cell (World.block_lt_of_cell? W _ (hpb 0))).trans (hpb 0)
      clear hdep hcl
      go_simp
      exact hK _ _ (I134.put 67 _ hF (by omega) (by decide) (by decide) { hJ with a0 := fun _ => rfl })
    · rintro done ac w hcl hdn hdep ⟨A1, K1, A2, K2, bb, hF, hJ⟩ K hK
      have x0 : ac.tmps[67]?.getD undef = .pointer (some ⟨wb, 0, none⟩) := hJ.a0 (hdep ⟨0, .data⟩ (by simp) rfl)
      have h2 : done 2 = false := by
        cases h' : done 2 with
        | false => rfl
        | true => have := hcl 2 _ rfl h' ⟨1, .data⟩ (by simp) rfl; rw [hdn] at this; cases this
      have h3 : done 3 = false := by
        cases h' : done 3 with
        | false => rfl
        | true => have := hcl 3 _ rfl h' ⟨2, .data⟩ (by simp) rfl; rw [h2] at this; cases this
      have h5 : done 5 = false := by
        cases h' : done 5 with
        | false => rfl
        | true => have := hcl 5 _ rfl h' ⟨3, .data⟩ (by simp) rfl; rw [h3] at this; cases this
      have h6 : done 6 = false := by
        cases h' : done 6 with
        | false => rfl
        | true => have := hcl 6 _ rfl h' ⟨5, .data⟩ (by simp) rfl; rw [h5] at this; cases this
      have h7 : done 7 = false := by
        cases h' : done 7 with
        | false => rfl
        | true => have := hcl 7 _ rfl h' ⟨6, .guard⟩ (by simp) rfl; rw [h6] at this; cases this
      have h8 : done 8 = false := by
        cases h' : done 8 with
        | false => rfl
        | true => have := hcl 8 _ rfl h' ⟨6, .guard⟩ (by simp) rfl; rw [h6] at this; cases this
      have h9 : done 9 = false := by
        cases h' : done 9 with
        | false => rfl
        | true => have := hcl 9 _ rfl h' ⟨8, .data⟩ (by simp) rfl; rw [h8] at this; cases this
      have h10 : done 10 = false := by
        cases h' : done 10 with
        | false => rfl
        | true => have := hcl 10 _ rfl h' ⟨6, .guard⟩ (by simp) rfl; rw [h6] at this; cases this
      have h11 : done 11 = false := by
        cases h' : done 11 with
        | false => rfl
        | true => have := hcl 11 _ rfl h' ⟨10, .data⟩ (by simp) rfl; rw [h10] at this; cases this
      have h12 : done 12 = false := by
        cases h' : done 12 with
        | false => rfl
        | true => have := hcl 12 _ rfl h' ⟨9, .data⟩ (by simp) rfl; rw [h9] at this; cases this
      have h13 : done 13 = false := by
        cases h' : done 13 with
        | false => rfl
        | true => have := hcl 13 _ rfl h' ⟨6, .guard⟩ (by simp) rfl; rw [h6] at this; cases this
      have h14 : done 14 = false := by
        cases h' : done 14 with
        | false => rfl
        | true => have := hcl 14 _ rfl h' ⟨6, .guard⟩ (by simp) rfl; rw [h6] at this; cases this
      have h15 : done 15 = false := by
        cases h' : done 15 with
        | false => rfl
        | true => have := hcl 15 _ rfl h' ⟨14, .data⟩ (by simp) rfl; rw [h14] at this; cases this
      have h16 : done 16 = false := by
        cases h' : done 16 with
        | false => rfl
        | true => have := hcl 16 _ rfl h' ⟨7, .data⟩ (by simp) rfl; rw [h7] at this; cases this
      have h17 : done 17 = false := by
        cases h' : done 17 with
        | false => rfl
        | true => have := hcl 17 _ rfl h' ⟨16, .data⟩ (by simp) rfl; rw [h16] at this; cases this
      have h18 : done 18 = false := by
        cases h' : done 18 with
        | false => rfl
        | true => have := hcl 18 _ rfl h' ⟨6, .data⟩ (by simp) rfl; rw [h6] at this; cases this
      clear hdep hcl
      go_simp
      exact hK _ _ (I134.put 68 _ hF (by omega) (by decide) (by decide) { hJ with a1 := fun _ => rfl })
    · rintro done ac w hcl hdn hdep ⟨A1, K1, A2, K2, bb, hF, hJ⟩ K hK
      have x1 : ac.tmps[68]?.getD undef = .pointer (some ⟨wb, 0, none⟩) := hJ.a1 (hdep ⟨1, .data⟩ (by simp) rfl)
      have h3 : done 3 = false := by
        cases h' : done 3 with
        | false => rfl
        | true => have := hcl 3 _ rfl h' ⟨2, .data⟩ (by simp) rfl; rw [hdn] at this; cases this
      have h5 : done 5 = false := by
        cases h' : done 5 with
        | false => rfl
        | true => have := hcl 5 _ rfl h' ⟨3, .data⟩ (by simp) rfl; rw [h3] at this; cases this
      have h6 : done 6 = false := by
        cases h' : done 6 with
        | false => rfl
        | true => have := hcl 6 _ rfl h' ⟨5, .data⟩ (by simp) rfl; rw [h5] at this; cases this
      have h7 : done 7 = false := by
        cases h' : done 7 with
        | false => rfl
        | true => have := hcl 7 _ rfl h' ⟨6, .guard⟩ (by simp) rfl; rw [h6] at this; cases this
      have h8 : done 8 = false := by
        cases h' : done 8 with
        | false => rfl
        | true => have := hcl 8 _ rfl h' ⟨6, .guard⟩ (by simp) rfl; rw [h6] at this; cases this
      have h9 : done 9 = false := by
        cases h' : done 9 with
        | false => rfl
        | true => have := hcl 9 _ rfl h' ⟨8, .data⟩ (by simp) rfl; rw [h8] at this; cases this
      have h10 : done 10 = false := by
        cases h' : done 10 with
        | false => rfl
        | true => have := hcl 10 _ rfl h' ⟨6, .guard⟩ (by simp) rfl; rw [h6] at this; cases this
      have h11 : done 11 = false := by
        cases h' : done 11 with
        | false => rfl
        | true => have := hcl 11 _ rfl h' ⟨10, .data⟩ (by simp) rfl; rw [h10] at this; cases this
      have h12 : done 12 = false := by
        cases h' : done 12 with
        | false => rfl
        | true => have := hcl 12 _ rfl h' ⟨9, .data⟩ (by simp) rfl; rw [h9] at this; cases this
      have h13 : done 13 = false := by
        cases h' : done 13 with
        | false => rfl
        | true => have := hcl 13 _ rfl h' ⟨6, .guard⟩ (by simp) rfl; rw [h6] at this; cases this
      have h14 : done 14 = false := by
        cases h' : done 14 with
        | false => rfl
        | true => have := hcl 14 _ rfl h' ⟨6, .guard⟩ (by simp) rfl; rw [h6] at this; cases this
      have h15 : done 15 = false := by
        cases h' : done 15 with
        | false => rfl
        | true => have := hcl 15 _ rfl h' ⟨14, .data⟩ (by simp) rfl; rw [h14] at this; cases this
      have h16 : done 16 = false := by
        cases h' : done 16 with
        | false => rfl
        | true => have := hcl 16 _ rfl h' ⟨7, .data⟩ (by simp) rfl; rw [h7] at this; cases this
      have h17 : done 17 = false := by
        cases h' : done 17 with
        | false => rfl
        | true => have := hcl 17 _ rfl h' ⟨16, .data⟩ (by simp) rfl; rw [h16] at this; cases this
      have h18 : done 18 = false := by
        cases h' : done 18 with
        | false => rfl
        | true => have := hcl 18 _ rfl h' ⟨6, .data⟩ (by simp) rfl; rw [h6] at this; cases this
      clear hdep hcl
      go_simp
      exact hK _ _ (I134.put 69 _ hF (by omega) (by decide) (by decide) { hJ with a2 := fun _ => rfl })
    · rintro done ac w hcl hdn hdep ⟨A1, K1, A2, K2, bb, hF, hJ⟩ K hK
      have x2 : ac.tmps[69]?.getD undef = .pointer (some ⟨wb, 0, none⟩) := hJ.a2 (hdep ⟨2, .data⟩ (by simp) rfl)
      have h5 : done 5 = false := by
        cases h' : done 5 with
        | false => rfl
        | true => have := hcl 5 _ rfl h' ⟨3, .data⟩ (by simp) rfl; rw [hdn] at this; cases this
      have h6 : done 6 = false := by
        cases h' : done 6 with
        | false => rfl
        | true => have := hcl 6 _ rfl h' ⟨5, .data⟩ (by simp) rfl; rw [h5] at this; cases this
      have h7 : done 7 = false := by
        cases h' : done 7 with
        | false => rfl
        | true => have := hcl 7 _ rfl h' ⟨6, .guard⟩ (by simp) rfl; rw [h6] at this; cases this
      have h8 : done 8 = false := by
        cases h' : done 8 with
        | false => rfl
        | true => have := hcl 8 _ rfl h' ⟨6, .guard⟩ (by simp) rfl; rw [h6] at this; cases this
      have h9 : done 9 = false := by
        cases h' : done 9 with
        | false => rfl
        | true => have := hcl 9 _ rfl h' ⟨8, .data⟩ (by simp) rfl; rw [h8] at this; cases this
      have h10 : done 10 = false := by
        cases h' : done 10 with
        | false => rfl
        | true => have := hcl 10 _ rfl h' ⟨6, .guard⟩ (by simp) rfl; rw [h6] at this; cases this
      have h11 : done 11 = false := by
        cases h' : done 11 with
        | false => rfl
        | true => have := hcl 11 _ rfl h' ⟨10, .data⟩ (by simp) rfl; rw [h10] at this; cases this
      have h12 : done 12 = false := by
        cases h' : done 12 with
        | false => rfl
        | true => have := hcl 12 _ rfl h' ⟨9, .data⟩ (by simp) rfl; rw [h9] at this; cases this
      have h13 : done 13 = false := by
        cases h' : done 13 with
        | false => rfl
        | true => have := hcl 13 _ rfl h' ⟨6, .guard⟩ (by simp) rfl; rw [h6] at this; cases this
      have h14 : done 14 = false := by
        cases h' : done 14 with
        | false => rfl
        | true => have := hcl 14 _ rfl h' ⟨6, .guard⟩ (by simp) rfl; rw [h6] at this; cases this
      have h15 : done 15 = false := by
        cases h' : done 15 with
        | false => rfl
        | true => have := hcl 15 _ rfl h' ⟨14, .data⟩ (by simp) rfl; rw [h14] at this; cases this
      have h16 : done 16 = false := by
        cases h' : done 16 with
        | false => rfl
        | true => have := hcl 16 _ rfl h' ⟨7, .data⟩ (by simp) rfl; rw [h7] at this; cases this
      have h17 : done 17 = false := by
        cases h' : done 17 with
        | false => rfl
        | true => have := hcl 17 _ rfl h' ⟨16, .data⟩ (by simp) rfl; rw [h16] at this; cases this
      have h18 : done 18 = false := by
        cases h' : done 18 with
        | false => rfl
        | true => have := hcl 18 _ rfl h' ⟨6, .data⟩ (by simp) rfl; rw [h6] at this; cases this
      have c0 : w.cell? ⟨wb, 0, none⟩ = some (.int .i64 r.cop.last) := ((hJ.gr h16).cell (World.block_lt_of_cell? W _ (hwb 0))).trans (hwb 0)
      have c1 : w.cell? ⟨wb, 1, none⟩ = some (.int .i64 r.cop.start) := ((hJ.gr h16).cell (World.block_lt_of_cell? W _ (hwb 1))).trans (hwb 1)
      have c2 : w.cell? ⟨wb, 2, none⟩ = some (.int .i64 r.cop.most) := ((hJ.gr h16).cell (World.block_lt_of_cell? W _ (hwb 2))).trans (hwb 2)
      have c3 : w.cell? ⟨wb, 3, none⟩ = some (.int .i64 r.cop.per) := ((hJ.gr h16).cell (World.block_lt_of_cell? W _ (hwb 3))).trans (hwb 3)
      have c4 : w.cell? ⟨wb, 4, none⟩ = some (.int .i64 r.cop.shovels) := ((hJ.gr h16).cell (World.block_lt_of_cell? W _ (hwb 4))).trans (hwb 4)
      have c5 : w.cell? ⟨wb, 5, none⟩ = some (.slice q.q.a1 r.cop.coal.length q.q.c1) := ((hJ.gr h16).cell (World.block_lt_of_cell? W _ (hwb 5))).trans (hwb 5)
      have c6 : w.cell? ⟨wb, 6, none⟩ = some (.slice q.q.a2 r.cop.want.length q.q.c2) := ((hJ.gr h16).cell (World.block_lt_of_cell? W _ (hwb 6))).trans (hwb 6)
      have c7 : w.cell? ⟨wb, 7, none⟩ = some (.int .i64 r.cop.hlo) := ((hJ.gr h16).cell (World.block_lt_of_cell? W _ (hwb 7))).trans (hwb 7)
      have c8 : w.cell? ⟨wb, 8, none⟩ = some (.int .i64 r.cop.hhi) := ((hJ.gr h16).cell (World.block_lt_of_cell? W _ (hwb 8))).trans (hwb 8)
      have c9 : w.cell? ⟨wb, 9, none⟩ = some (.slice q.q.a3 r.cop.loss.length q.q.c3) := ((hJ.gr h16).cell (World.block_lt_of_cell? W _ (hwb 9))).trans (hwb 9)
      have c10 : w.cell? ⟨wb, 10, none⟩ = some (.slice q.q.a4 r.cop.rds.length q.q.c4) := ((hJ.gr h16).cell (World.block_lt_of_cell? W _ (hwb 10))).trans (hwb 10)
      have c11 : w.cell? ⟨wb, 11, none⟩ = some (.int .i64 r.buckets) := ((hJ.gr h16).cell (World.block_lt_of_cell? W _ (hwb 11))).trans (hwb 11)
      have c12 : w.cell? ⟨wb, 12, none⟩ = some (.int .i64 r.places) := ((hJ.gr h16).cell (World.block_lt_of_cell? W _ (hwb 12))).trans (hwb 12)
      have c13 : w.cell? ⟨wb, 13, none⟩ = some (.slice q.a5 r.baths.length q.c5) := ((hJ.gr h16).cell (World.block_lt_of_cell? W _ (hwb 13))).trans (hwb 13)
      clear hdep hcl
      go_simp
      exact hK _ _ (I134.put 70 _ hF (by omega) (by decide) (by decide) { hJ with a3 := fun _ => rfl })
    · rintro done ac w hcl hdn hdep ⟨A1, K1, A2, K2, bb, hF, hJ⟩ K hK
      have y12 : ac.tmps[12]?.getD undef = .pointer (some ⟨xb, 0, none⟩) := (hF.same 12 (by omega)).trans s12
      have h5 : done 5 = false := by
        cases h' : done 5 with
        | false => rfl
        | true => have := hcl 5 _ rfl h' ⟨4, .data⟩ (by simp) rfl; rw [hdn] at this; cases this
      have h6 : done 6 = false := by
        cases h' : done 6 with
        | false => rfl
        | true => have := hcl 6 _ rfl h' ⟨5, .data⟩ (by simp) rfl; rw [h5] at this; cases this
      have h7 : done 7 = false := by
        cases h' : done 7 with
        | false => rfl
        | true => have := hcl 7 _ rfl h' ⟨6, .guard⟩ (by simp) rfl; rw [h6] at this; cases this
      have h8 : done 8 = false := by
        cases h' : done 8 with
        | false => rfl
        | true => have := hcl 8 _ rfl h' ⟨6, .guard⟩ (by simp) rfl; rw [h6] at this; cases this
      have h9 : done 9 = false := by
        cases h' : done 9 with
        | false => rfl
        | true => have := hcl 9 _ rfl h' ⟨8, .data⟩ (by simp) rfl; rw [h8] at this; cases this
      have h10 : done 10 = false := by
        cases h' : done 10 with
        | false => rfl
        | true => have := hcl 10 _ rfl h' ⟨6, .guard⟩ (by simp) rfl; rw [h6] at this; cases this
      have h11 : done 11 = false := by
        cases h' : done 11 with
        | false => rfl
        | true => have := hcl 11 _ rfl h' ⟨10, .data⟩ (by simp) rfl; rw [h10] at this; cases this
      have h12 : done 12 = false := by
        cases h' : done 12 with
        | false => rfl
        | true => have := hcl 12 _ rfl h' ⟨9, .data⟩ (by simp) rfl; rw [h9] at this; cases this
      have h13 : done 13 = false := by
        cases h' : done 13 with
        | false => rfl
        | true => have := hcl 13 _ rfl h' ⟨6, .guard⟩ (by simp) rfl; rw [h6] at this; cases this
      have h14 : done 14 = false := by
        cases h' : done 14 with
        | false => rfl
        | true => have := hcl 14 _ rfl h' ⟨6, .guard⟩ (by simp) rfl; rw [h6] at this; cases this
      have h15 : done 15 = false := by
        cases h' : done 15 with
        | false => rfl
        | true => have := hcl 15 _ rfl h' ⟨14, .data⟩ (by simp) rfl; rw [h14] at this; cases this
      have h16 : done 16 = false := by
        cases h' : done 16 with
        | false => rfl
        | true => have := hcl 16 _ rfl h' ⟨7, .data⟩ (by simp) rfl; rw [h7] at this; cases this
      have h17 : done 17 = false := by
        cases h' : done 17 with
        | false => rfl
        | true => have := hcl 17 _ rfl h' ⟨16, .data⟩ (by simp) rfl; rw [h16] at this; cases this
      have h18 : done 18 = false := by
        cases h' : done 18 with
        | false => rfl
        | true => have := hcl 18 _ rfl h' ⟨6, .data⟩ (by simp) rfl; rw [h6] at this; cases this
      have cx0 : w.cell? ⟨xb, 0, none⟩ = some (.int .i64 (nth x 0)) := ((hJ.gr h16).cell (World.block_lt_of_cell? W _ (hxb 0))).trans (hxb 0)
      have cx1 : w.cell? ⟨xb, 1, none⟩ = some (.int .i64 (nth x 1)) := ((hJ.gr h16).cell (World.block_lt_of_cell? W _ (hxb 1))).trans (hxb 1)
      have cx2 : w.cell? ⟨xb, 2, none⟩ = some (.int .i64 (nth x 2)) := ((hJ.gr h16).cell (World.block_lt_of_cell? W _ (hxb 2))).trans (hxb 2)
      have cx3 : w.cell? ⟨xb, 3, none⟩ = some (.int .i64 (nth x 3)) := ((hJ.gr h16).cell (World.block_lt_of_cell? W _ (hxb 3))).trans (hxb 3)
      have cx4 : w.cell? ⟨xb, 4, none⟩ = some (.int .i64 (nth x 4)) := ((hJ.gr h16).cell (World.block_lt_of_cell? W _ (hxb 4))).trans (hxb 4)
      clear hdep hcl
      go_simp
      exact hK _ _ (I134.put 71 _ hF (by omega) (by decide) (by decide) { hJ with a4 := fun _ => rfl })
    · rintro done ac w hcl hdn hdep ⟨A1, K1, A2, K2, bb, hF, hJ⟩ K hK
      have x3 : ac.tmps[70]?.getD undef = roomV r q := hJ.a3 (hdep ⟨3, .data⟩ (by simp) rfl)
      have x4 : ac.tmps[71]?.getD undef = nv x := hJ.a4 (hdep ⟨4, .data⟩ (by simp) rfl)
      have h6 : done 6 = false := by
        cases h' : done 6 with
        | false => rfl
        | true => have := hcl 6 _ rfl h' ⟨5, .data⟩ (by simp) rfl; rw [hdn] at this; cases this
      have h7 : done 7 = false := by
        cases h' : done 7 with
        | false => rfl
        | true => have := hcl 7 _ rfl h' ⟨6, .guard⟩ (by simp) rfl; rw [h6] at this; cases this
      have h8 : done 8 = false := by
        cases h' : done 8 with
        | false => rfl
        | true => have := hcl 8 _ rfl h' ⟨6, .guard⟩ (by simp) rfl; rw [h6] at this; cases this
      have h9 : done 9 = false := by
        cases h' : done 9 with
        | false => rfl
        | true => have := hcl 9 _ rfl h' ⟨8, .data⟩ (by simp) rfl; rw [h8] at this; cases this
      have h10 : done 10 = false := by
        cases h' : done 10 with
        | false => rfl
        | true => have := hcl 10 _ rfl h' ⟨6, .guard⟩ (by simp) rfl; rw [h6] at this; cases this
      have h11 : done 11 = false := by
        cases h' : done 11 with
        | false => rfl
        | true => have := hcl 11 _ rfl h' ⟨10, .data⟩ (by simp) rfl; rw [h10] at this; cases this
      have h12 : done 12 = false := by
        cases h' : done 12 with
        | false => rfl
        | true => have := hcl 12 _ rfl h' ⟨9, .data⟩ (by simp) rfl; rw [h9] at this; cases this
      have h13 : done 13 = false := by
        cases h' : done 13 with
        | false => rfl
        | true => have := hcl 13 _ rfl h' ⟨6, .guard⟩ (by simp) rfl; rw [h6] at this; cases this
      have h14 : done 14 = false := by
        cases h' : done 14 with
        | false => rfl
        | true => have := hcl 14 _ rfl h' ⟨6, .guard⟩ (by simp) rfl; rw [h6] at this; cases this
      have h15 : done 15 = false := by
        cases h' : done 15 with
        | false => rfl
        | true => have := hcl 15 _ rfl h' ⟨14, .data⟩ (by simp) rfl; rw [h14] at this; cases this
      have h16 : done 16 = false := by
        cases h' : done 16 with
        | false => rfl
        | true => have := hcl 16 _ rfl h' ⟨7, .data⟩ (by simp) rfl; rw [h7] at this; cases this
      have h17 : done 17 = false := by
        cases h' : done 17 with
        | false => rfl
        | true => have := hcl 17 _ rfl h' ⟨16, .data⟩ (by simp) rfl; rw [h16] at this; cases this
      have h18 : done 18 = false := by
        cases h' : done 18 with
        | false => rfl
        | true => have := hcl 18 _ rfl h' ⟨6, .data⟩ (by simp) rfl; rw [h6] at this; cases this
      clear hdep hcl
      go_simp
      refine (hc127 w (hJ.gr h16)).mono ?_
      rintro e w1 ⟨rfl, hb⟩
      have hw := (hJ.gr h16).size
      exact hK _ _ (I134.put 72 _ hF (by omega) (by decide) (by decide) { hJ with gr := fun _ => (hJ.gr h16).trans (hb.mono hw), rr := (fun h' => (by have h2 : done 16 = true := h'; rw [h16] at h2; cases h2)), a5 := fun _ => rfl, f9 := fun h' _ => (by have h2 : done 9 = true := h'; rw [h9] at h2; cases h2), bu := fun h' _ => (by have h2 : done 11 = true := h'; rw [h11] at h2; cases h2), f12 := fun h' _ => (by have h2 : done 12 = true := h'; rw [h12] at h2; cases h2) })
    · rintro done ac w hcl hdn hdep ⟨A1, K1, A2, K2, bb, hF, hJ⟩ K hK
      have x5 : ac.tmps[72]?.getD undef = .bool true := hJ.a5 (hdep ⟨5, .data⟩ (by simp) rfl)
      have h7 : done 7 = false := by
        cases h' : done 7 with
        | false => rfl
        | true => have := hcl 7 _ rfl h' ⟨6, .guard⟩ (by simp) rfl; rw [hdn] at this; cases this
      have h8 : done 8 = false := by
        cases h' : done 8 with
        | false => rfl
        | true => have := hcl 8 _ rfl h' ⟨6, .guard⟩ (by simp) rfl; rw [hdn] at this; cases this
      have h9 : done 9 = false := by
        cases h' : done 9 with
        | false => rfl
        | true => have := hcl 9 _ rfl h' ⟨8, .data⟩ (by simp) rfl; rw [h8] at this; cases this
      have h10 : done 10 = false := by
        cases h' : done 10 with
        | false => rfl
        | true => have := hcl 10 _ rfl h' ⟨6, .guard⟩ (by simp) rfl; rw [hdn] at this; cases this
      have h11 : done 11 = false := by
        cases h' : done 11 with
        | false => rfl
        | true => have := hcl 11 _ rfl h' ⟨10, .data⟩ (by simp) rfl; rw [h10] at this; cases this
      have h12 : done 12 = false := by
        cases h' : done 12 with
        | false => rfl
        | true => have := hcl 12 _ rfl h' ⟨9, .data⟩ (by simp) rfl; rw [h9] at this; cases this
      have h13 : done 13 = false := by
        cases h' : done 13 with
        | false => rfl
        | true => have := hcl 13 _ rfl h' ⟨6, .guard⟩ (by simp) rfl; rw [hdn] at this; cases this
      have h14 : done 14 = false := by
        cases h' : done 14 with
        | false => rfl
        | true => have := hcl 14 _ rfl h' ⟨6, .guard⟩ (by simp) rfl; rw [hdn] at this; cases this
      have h15 : done 15 = false := by
        cases h' : done 15 with
        | false => rfl
        | true => have := hcl 15 _ rfl h' ⟨14, .data⟩ (by simp) rfl; rw [h14] at this; cases this
      have h16 : done 16 = false := by
        cases h' : done 16 with
        | false => rfl
        | true => have := hcl 16 _ rfl h' ⟨7, .data⟩ (by simp) rfl; rw [h7] at this; cases this
      have h17 : done 17 = false := by
        cases h' : done 17 with
        | false => rfl
        | true => have := hcl 17 _ rfl h' ⟨16, .data⟩ (by simp) rfl; rw [h16] at this; cases this
      have h18 : done 18 = false := by
        cases h' : done 18 with
        | false => rfl
        | true => have := hcl 18 _ rfl h' ⟨6, .data⟩ (by simp) rfl; rw [hdn] at this; cases this
      clear hdep hcl
      go_simp
      exact hK _ _ (I134.put 73 _ hF (by omega) (by decide) (by decide) { hJ with a6 := fun _ => rfl })
    · rintro done ac w hcl hdn hdep ⟨A1, K1, A2, K2, bb, hF, hJ⟩ K hK
      have y6 : ac.tmps[6]?.getD undef = .pointer (some ⟨n0 + 1, 0, none⟩) := (hF.same 6 (by omega)).trans s6
      have x6 : ac.tmps[73]?.getD undef = .bool true := hJ.a6 (hdep ⟨6, .guard⟩ (by simp) rfl)
      have z6 := tmp_bool x6
      have h16 : done 16 = false := by
        cases h' : done 16 with
        | false => rfl
        | true => have := hcl 16 _ rfl h' ⟨7, .data⟩ (by simp) rfl; rw [hdn] at this; cases this
      have h17 : done 17 = false := by
        cases h' : done 17 with
        | false => rfl
        | true => have := hcl 17 _ rfl h' ⟨16, .data⟩ (by simp) rfl; rw [h16] at this; cases this
      have h18 : done 18 = false := by
        cases h' : done 18 with
        | false => rfl
        | true => have := hcl 18 _ rfl h' ⟨17, .data⟩ (by simp) rfl; rw [h17] at this; cases this
      have c0 : w.cell? ⟨n0 + 1, 0, none⟩ = some (.func (.func 134) #[] #[.pointer (some ⟨pb, 0, none⟩), .pointer (some ⟨n0, 0, none⟩), .pointer (some ⟨po, 0, none⟩), .pointer (some ⟨n0 + 1, 0, none⟩)]) := ((hJ.gr h16).cell (World.block_lt_of_cell? W _ (hch 0))).trans (hch 0)
      clear hdep hcl
      go_simp
      exact hK _ _ (I134.put 74 _ hF (by omega) (by decide) (by decide) { hJ with a7 := fun _ => rfl })
    · rintro done ac w hcl hdn hdep ⟨A1, K1, A2, K2, bb, hF, hJ⟩ K hK
      have y0 : ac.tmps[0]?.getD undef = .slice a plan.length k := (hF.same 0 (by omega)).trans s0
      have x6 : ac.tmps[73]?.getD undef = .bool true := hJ.a6 (hdep ⟨6, .guard⟩ (by simp) rfl)
      have z6 := tmp_bool x6
      have h9 : done 9 = false := by
        cases h' : done 9 with
        | false => rfl
        | true => have := hcl 9 _ rfl h' ⟨8, .data⟩ (by simp) rfl; rw [hdn] at this; cases this
      have h12 : done 12 = false := by
        cases h' : done 12 with
        | false => rfl
        | true => have := hcl 12 _ rfl h' ⟨9, .data⟩ (by simp) rfl; rw [h9] at this; cases this
      have h16 : done 16 = false := by
        cases h' : done 16 with
        | false => rfl
        | true => have := hcl 16 _ rfl h' ⟨12, .data⟩ (by simp) rfl; rw [h12] at this; cases this
      have h17 : done 17 = false := by
        cases h' : done 17 with
        | false => rfl
        | true => have := hcl 17 _ rfl h' ⟨16, .data⟩ (by simp) rfl; rw [h16] at this; cases this
      have h18 : done 18 = false := by
        cases h' : done 18 with
        | false => rfl
        | true => have := hcl 18 _ rfl h' ⟨17, .data⟩ (by simp) rfl; rw [h17] at this; cases this
      clear hdep hcl
      go_simp
      exact hK _ _ (I134.put 75 _ hF (by omega) (by decide) (by decide) { hJ with a8 := fun _ => rfl })
    · rintro done ac w hcl hdn hdep ⟨A1, K1, A2, K2, bb, hF, hJ⟩ K hK
      have x8 : ac.tmps[75]?.getD undef = .slice a plan.length k := hJ.a8 (hdep ⟨8, .data⟩ (by simp) rfl)
      have x6 : ac.tmps[73]?.getD undef = .bool true := hJ.a6 (hdep ⟨6, .guard⟩ (by simp) rfl)
      have z6 := tmp_bool x6
      have h12 : done 12 = false := by
        cases h' : done 12 with
        | false => rfl
        | true => have := hcl 12 _ rfl h' ⟨9, .data⟩ (by simp) rfl; rw [hdn] at this; cases this
      have h16 : done 16 = false := by
        cases h' : done 16 with
        | false => rfl
        | true => have := hcl 16 _ rfl h' ⟨12, .data⟩ (by simp) rfl; rw [h12] at this; cases this
      have h17 : done 17 = false := by
        cases h' : done 17 with
        | false => rfl
        | true => have := hcl 17 _ rfl h' ⟨16, .data⟩ (by simp) rfl; rw [h16] at this; cases this
      have h18 : done 18 = false := by
        cases h' : done 18 with
        | false => rfl
        | true => have := hcl 18 _ rfl h' ⟨17, .data⟩ (by simp) rfl; rw [h17] at this; cases this
      clear hdep hcl
      go_simp
      refine (hc101 w (hJ.gr h16)).mono ?_
      rintro e w1 ⟨A1', K1', rfl, hr, hb⟩
      have hw := (hJ.gr h16).size
      exact hK _ _ (I134.put (A1 := A1') (K1 := K1') 76 _ hF (by omega) (by decide) (by decide) { hJ with gr := fun _ => (hJ.gr h16).trans (hb.mono hw), rr := (fun h' => (by have h2 : done 16 = true := h'; rw [h16] at h2; cases h2)), a9 := fun _ => rfl, f9 := fun _ _ => own_base hr hw, bu := fun h1 h2 => (let ⟨b, e1, e2, e3⟩ := hJ.bu h1 h2; ⟨b, e1, e2, (hb.block _ (Array.getElem?_eq_some_iff.1 e3).1).trans e3⟩), f12 := fun h' _ => (by have h2 : done 12 = true := h'; rw [h12] at h2; cases h2) })
    · rintro done ac w hcl hdn hdep ⟨A1, K1, A2, K2, bb, hF, hJ⟩ K hK
      have y11 : ac.tmps[11]?.getD undef = .int .i64 h := (hF.same 11 (by omega)).trans s11
      have x6 : ac.tmps[73]?.getD undef = .bool true := hJ.a6 (hdep ⟨6, .guard⟩ (by simp) rfl)
      have z6 := tmp_bool x6
      have h11 : done 11 = false := by
        cases h' : done 11 with
        | false => rfl
        | true => have := hcl 11 _ rfl h' ⟨10, .data⟩ (by simp) rfl; rw [hdn] at this; cases this
      have h12 : done 12 = false := by
        cases h' : done 12 with
        | false => rfl
        | true => have := hcl 12 _ rfl h' ⟨11, .data⟩ (by simp) rfl; rw [h11] at this; cases this
      have h16 : done 16 = false := by
        cases h' : done 16 with
        | false => rfl
        | true => have := hcl 16 _ rfl h' ⟨12, .data⟩ (by simp) rfl; rw [h12] at this; cases this
      have h17 : done 17 = false := by
        cases h' : done 17 with
        | false => rfl
        | true => have := hcl 17 _ rfl h' ⟨16, .data⟩ (by simp) rfl; rw [h16] at this; cases this
      have h18 : done 18 = false := by
        cases h' : done 18 with
        | false => rfl
        | true => have := hcl 18 _ rfl h' ⟨17, .data⟩ (by simp) rfl; rw [h17] at this; cases this
      clear hdep hcl
      go_simp
      exact hK _ _ (I134.put 77 _ hF (by omega) (by decide) (by decide) { hJ with a10 := fun _ => rfl })
    · rintro done ac w hcl hdn hdep ⟨A1, K1, A2, K2, bb, hF, hJ⟩ K hK
      have x10 : ac.tmps[77]?.getD undef = .int .i64 h := hJ.a10 (hdep ⟨10, .data⟩ (by simp) rfl)
      have x6 : ac.tmps[73]?.getD undef = .bool true := hJ.a6 (hdep ⟨6, .guard⟩ (by simp) rfl)
      have z6 := tmp_bool x6
      have h12 : done 12 = false := by
        cases h' : done 12 with
        | false => rfl
        | true => have := hcl 12 _ rfl h' ⟨11, .data⟩ (by simp) rfl; rw [hdn] at this; cases this
      have h16 : done 16 = false := by
        cases h' : done 16 with
        | false => rfl
        | true => have := hcl 16 _ rfl h' ⟨12, .data⟩ (by simp) rfl; rw [h12] at this; cases this
      have h17 : done 17 = false := by
        cases h' : done 17 with
        | false => rfl
        | true => have := hcl 17 _ rfl h' ⟨16, .data⟩ (by simp) rfl; rw [h16] at this; cases this
      have h18 : done 18 = false := by
        cases h' : done 18 with
        | false => rfl
        | true => have := hcl 18 _ rfl h' ⟨17, .data⟩ (by simp) rfl; rw [h17] at this; cases this
      clear hdep hcl
      go_simp
      have hw := (hJ.gr h16).size
      exact hK _ _ (I134.put 78 _ hF (by omega) (by decide) (by decide) { hJ with gr := fun _ => bl_al (hJ.gr h16) _, rr := (fun h' => (by have h2 : done 16 = true := h'; rw [h16] at h2; cases h2)), f9 := fun h1 h2 => (hJ.f9 h1 h2).alloc _, bu := fun _ _ => ⟨w.heap.size, rfl, hw, World.alloc_heap_new _ _⟩, f12 := fun h' _ => (by have h2 : done 12 = true := h'; rw [h12] at h2; cases h2) })
    · rintro done ac w hcl hdn hdep ⟨A1, K1, A2, K2, bb, hF, hJ⟩ K hK
      have x9 : ac.tmps[76]?.getD undef = .slice A1 plan.length K1 := hJ.a9 (hdep ⟨9, .data⟩ (by simp) rfl)
      have x6 : ac.tmps[73]?.getD undef = .bool true := hJ.a6 (hdep ⟨6, .guard⟩ (by simp) rfl)
      have z6 := tmp_bool x6
      have h16 : done 16 = false := by
        cases h' : done 16 with
        | false => rfl
        | true => have := hcl 16 _ rfl h' ⟨12, .data⟩ (by simp) rfl; rw [hdn] at this; cases this
      have h17 : done 17 = false := by
        cases h' : done 17 with
        | false => rfl
        | true => have := hcl 17 _ rfl h' ⟨16, .data⟩ (by simp) rfl; rw [h16] at this; cases this
      have h18 : done 18 = false := by
        cases h' : done 18 with
        | false => rfl
        | true => have := hcl 18 _ rfl h' ⟨17, .data⟩ (by simp) rfl; rw [h17] at this; cases this
      obtain ⟨b, hb, hbl, hbh⟩ := hJ.bu (hdep ⟨11, .data⟩ (by simp) rfl) hdn
      have hbs : ac.tmps[78]?.getD undef = .slice (some ⟨b, 0, none⟩) 1 1 := hb
      have hr9 := hJ.f9 (hdep ⟨9, .data⟩ (by simp) rfl) hdn
      have hw := (hJ.gr h16).size
      rw [if_pos (by simp [Region.wanted, yielded, z6])]
      refine wp_append_k W.heap.size _ _ 22 3 _ 1 8 rfl Tryz.underlying22 F.out rfl (by decide) (by decide) (.slice A1 plan.length K1) plan.length (ints plan) [.int .i64 h] b (by simp [Act.eval, x9]) (by simp [Act.eval, hbs]) hbh rfl (by simp [Value.oneCell']) hr9 (by omega) (by omega) ?_
      intro u w1 hown hg hat
      obtain ⟨A2', K2', rfl⟩ := own_shape6 hown
      have hgr : Below W.heap.size W w1 := bl_gr (hJ.gr h16) hg (fun k hk => (hr9.lt k hk).1)
      exact hK _ _ (I134.put (A2 := A2') (K2 := K2') 79 _ hF (by omega) (by decide) (by decide) { hJ with gr := fun _ => hgr, rr := (fun h' => (by have h2 : done 16 = true := h'; rw [h16] at h2; cases h2)), a12 := fun _ => rfl, f9 := fun _ h' => (by cases h'), bu := fun _ h' => (by cases h'), f12 := fun _ _ => (by rw [ints_snoc]; exact hown) })
    · rintro done ac w hcl hdn hdep ⟨A1, K1, A2, K2, bb, hF, hJ⟩ K hK
      have y12 : ac.tmps[12]?.getD undef = .pointer (some ⟨xb, 0, none⟩) := (hF.same 12 (by omega)).trans s12
      have x6 : ac.tmps[73]?.getD undef = .bool true := hJ.a6 (hdep ⟨6, .guard⟩ (by simp) rfl)
      have z6 := tmp_bool x6
      have h16 : done 16 = false := by
        cases h' : done 16 with
        | false => rfl
        | true => have := hcl 16 _ rfl h' ⟨13, .data⟩ (by simp) rfl; rw [hdn] at this; cases this
      have h17 : done 17 = false := by
        cases h' : done 17 with
        | false => rfl
        | true => have := hcl 17 _ rfl h' ⟨16, .data⟩ (by simp) rfl; rw [h16] at this; cases this
      have h18 : done 18 = false := by
        cases h' : done 18 with
        | false => rfl
        | true => have := hcl 18 _ rfl h' ⟨17, .data⟩ (by simp) rfl; rw [h17] at this; cases this
      have cx0 : w.cell? ⟨xb, 0, none⟩ = some (.int .i64 (nth x 0)) := ((hJ.gr h16).cell (World.block_lt_of_cell? W _ (hxb 0))).trans (hxb 0)
      have cx1 : w.cell? ⟨xb, 1, none⟩ = some (.int .i64 (nth x 1)) := ((hJ.gr h16).cell (World.block_lt_of_cell? W _ (hxb 1))).trans (hxb 1)
      have cx2 : w.cell? ⟨xb, 2, none⟩ = some (.int .i64 (nth x 2)) := ((hJ.gr h16).cell (World.block_lt_of_cell? W _ (hxb 2))).trans (hxb 2)
      have cx3 : w.cell? ⟨xb, 3, none⟩ = some (.int .i64 (nth x 3)) := ((hJ.gr h16).cell (World.block_lt_of_cell? W _ (hxb 3))).trans (hxb 3)
      have cx4 : w.cell? ⟨xb, 4, none⟩ = some (.int .i64 (nth x 4)) := ((hJ.gr h16).cell (World.block_lt_of_cell? W _ (hxb 4))).trans (hxb 4)
      clear hdep hcl
      go_simp
      exact hK _ _ (I134.put 80 _ hF (by omega) (by decide) (by decide) { hJ with a13 := fun _ => rfl })
    · rintro done ac w hcl hdn hdep ⟨A1, K1, A2, K2, bb, hF, hJ⟩ K hK
      have y2 : ac.tmps[2]?.getD undef = .int .i64 i := (hF.same 2 (by omega)).trans s2
      have x6 : ac.tmps[73]?.getD undef = .bool true := hJ.a6 (hdep ⟨6, .guard⟩ (by simp) rfl)
      have z6 := tmp_bool x6
      have h15 : done 15 = false := by
        cases h' : done 15 with
        | false => rfl
        | true => have := hcl 15 _ rfl h' ⟨14, .data⟩ (by simp) rfl; rw [hdn] at this; cases this
      have h16 : done 16 = false := by
        cases h' : done 16 with
        | false => rfl
        | true => have := hcl 16 _ rfl h' ⟨15, .data⟩ (by simp) rfl; rw [h15] at this; cases this
      have h17 : done 17 = false := by
        cases h' : done 17 with
        | false => rfl
        | true => have := hcl 17 _ rfl h' ⟨16, .data⟩ (by simp) rfl; rw [h16] at this; cases this
      have h18 : done 18 = false := by
        cases h' : done 18 with
        | false => rfl
        | true => have := hcl 18 _ rfl h' ⟨17, .data⟩ (by simp) rfl; rw [h17] at this; cases this
      clear hdep hcl
      go_simp
      exact hK _ _ (I134.put 81 _ hF (by omega) (by decide) (by decide) { hJ with a14 := fun _ => rfl })
    · rintro done ac w hcl hdn hdep ⟨A1, K1, A2, K2, bb, hF, hJ⟩ K hK
      have x14 : ac.tmps[81]?.getD undef = .int .i64 i := hJ.a14 (hdep ⟨14, .data⟩ (by simp) rfl)
      have x6 : ac.tmps[73]?.getD undef = .bool true := hJ.a6 (hdep ⟨6, .guard⟩ (by simp) rfl)
      have z6 := tmp_bool x6
      have h16 : done 16 = false := by
        cases h' : done 16 with
        | false => rfl
        | true => have := hcl 16 _ rfl h' ⟨15, .data⟩ (by simp) rfl; rw [hdn] at this; cases this
      have h17 : done 17 = false := by
        cases h' : done 17 with
        | false => rfl
        | true => have := hcl 17 _ rfl h' ⟨16, .data⟩ (by simp) rfl; rw [h16] at this; cases this
      have h18 : done 18 = false := by
        cases h' : done 18 with
        | false => rfl
        | true => have := hcl 18 _ rfl h' ⟨17, .data⟩ (by simp) rfl; rw [h17] at this; cases this
      have hw1 : IntKind.i64.wrap ((i : Int) + 1) = (i : Int) + 1 := IntWalk.i64_in _ (by omega)
      clear hdep hcl
      go_simp
      exact hK _ _ (I134.put 82 _ hF (by omega) (by decide) (by decide) { hJ with a15 := fun _ => rfl })
    · rintro done ac w hcl hdn hdep ⟨A1, K1, A2, K2, bb, hF, hJ⟩ K hK
      have x7 : ac.tmps[74]?.getD undef = .func (.func 134) #[] #[.pointer (some ⟨pb, 0, none⟩), .pointer (some ⟨n0, 0, none⟩), .pointer (some ⟨po, 0, none⟩), .pointer (some ⟨n0 + 1, 0, none⟩)] := hJ.a7 (hdep ⟨7, .data⟩ (by simp) rfl)
      have x12 : ac.tmps[79]?.getD undef = .slice A2 (plan.length + 1) K2 := hJ.a12 (hdep ⟨12, .data⟩ (by simp) rfl)
      have x13 : ac.tmps[80]?.getD undef = nv x := hJ.a13 (hdep ⟨13, .data⟩ (by simp) rfl)
      have x15 : ac.tmps[82]?.getD undef = .int .i64 ((i : Int) + 1) := hJ.a15 (hdep ⟨15, .data⟩ (by simp) rfl)
      have x6 : ac.tmps[73]?.getD undef = .bool true := hJ.a6 (hdep ⟨6, .guard⟩ (by simp) rfl)
      have z6 := tmp_bool x6
      have hr12 := hJ.f12 (hdep ⟨12, .data⟩ (by simp) rfl) hdn
      have h17 : done 17 = false := by
        cases h' : done 17 with
        | false => rfl
        | true => have := hcl 17 _ rfl h' ⟨16, .data⟩ (by simp) rfl; rw [hdn] at this; cases this
      have h18 : done 18 = false := by
        cases h' : done 18 with
        | false => rfl
        | true => have := hcl 18 _ rfl h' ⟨17, .data⟩ (by simp) rfl; rw [h17] at this; cases this
      have d12 : done 12 = true := hdep ⟨12, .data⟩ (by simp) rfl
      clear hdep hcl
      go_simp
      refine (hc16 A2 K2 w (hJ.gr hdn) hr12).mono ?_
      rintro e w1 ⟨bb', rfl, hR⟩
      exact hK _ _ (I134.put (bb := bb') 83 _ hF (by omega) (by decide) (by decide) { hJ with gr := fun h' => (by cases h'), rr := fun _ => hR, a16 := fun _ => rfl, a17 := (fun h' => (by have h2 : done 17 = true := h'; rw [h17] at h2; cases h2)), a18 := (fun h' => (by have h2 : done 18 = true := h'; rw [h18] at h2; cases h2)), f9 := fun _ h' => (by have h2 : done 12 = false := h'; rw [d12] at h2; cases h2), bu := fun _ h' => (by have h2 : done 12 = false := h'; rw [d12] at h2; cases h2), f12 := fun _ h' => (by cases h') })
    · rintro done ac w hcl hdn hdep ⟨A1, K1, A2, K2, bb, hF, hJ⟩ K hK
      have x16 : ac.tmps[83]?.getD undef = .bool bb := hJ.a16 (hdep ⟨16, .data⟩ (by simp) rfl)
      have x6 : ac.tmps[73]?.getD undef = .bool true := hJ.a6 (hdep ⟨6, .guard⟩ (by simp) rfl)
      have z6 := tmp_bool x6
      clear hdep hcl
      go_simp
      exact hK _ _ (I134.put 84 _ hF (by omega) (by decide) (by decide) { hJ with a17 := fun _ => rfl })
    · rintro done ac w hcl hdn hdep ⟨A1, K1, A2, K2, bb, hF, hJ⟩ K hK
      have x6 : ac.tmps[73]?.getD undef = .bool true := hJ.a6 (hdep ⟨6, .data⟩ (by simp) rfl)
      have x17 : ac.tmps[84]?.getD undef = .bool (!bb) := hJ.a17 (hdep ⟨17, .data⟩ (by simp) rfl)
      clear hdep hcl
      go_simp
      exact hK _ _ (I134.put 85 _ hF (by omega) (by decide) (by decide) { hJ with a18 := fun _ => rfl })
  · rintro done ac w hd ⟨A1, K1, A2, K2, bb, hF, hJ⟩
    exact hQ ac w bb hF (hJ.a18 (hd 18 (by decide))) (hJ.rr (hd 16 (by decide)))
end Go.Proofs.YtpgnplmjfhdncaaGreat
/- The iterator of plans: its inner function, all of it. -/
namespace Go.Proofs.YtpgnplmjfhdncaaGreat
open Go.RowKit
set_option linter.unusedVariables false
theorem Fr.lit86 {a0 a : Act} {v85 : Value} (h : Fr 67 85 a0 a) (hs : a0.tmps.size = 86) (h85 : slots a 85 = v85) : ∃ f : Nat → Value, a = { tmps := #[slots a0 0, slots a0 1, slots a0 2, slots a0 3, slots a0 4, slots a0 5, slots a0 6, slots a0 7, slots a0 8, slots a0 9, slots a0 10, slots a0 11, slots a0 12, slots a0 13, slots a0 14, slots a0 15, slots a0 16, slots a0 17, slots a0 18, slots a0 19, slots a0 20, slots a0 21, slots a0 22, slots a0 23, slots a0 24, slots a0 25, slots a0 26, slots a0 27, slots a0 28, slots a0 29, slots a0 30, slots a0 31, slots a0 32, slots a0 33, slots a0 34, slots a0 35, slots a0 36, slots a0 37, slots a0 38, slots a0 39, slots a0 40, slots a0 41, slots a0 42, slots a0 43, slots a0 44, slots a0 45, slots a0 46, slots a0 47, slots a0 48, slots a0 49, slots a0 50, slots a0 51, slots a0 52, slots a0 53, slots a0 54, slots a0 55, slots a0 56, slots a0 57, slots a0 58, slots a0 59, slots a0 60, slots a0 61, slots a0 62, slots a0 63, slots a0 64, slots a0 65, slots a0 66, f 67, f 68, f 69, f 70, f 71, f 72, f 73, f 74, f 75, f 76, f 77, f 78, f 79, f 80, f 81, f 82, f 83, f 84, v85], defers := a0.defers } := by
  refine ⟨slots a, ?_⟩
  have := h.lit
  rw [hs] at this
  subst h85
  exact this

/-- What the plans from one bath on come to: all are handed on, or some, up to a 'no more'. -/
def PlR (r : Rm) (q : RA) (B wb m : Nat) (out : List Int) (aO : Option Addr) (kO l n0 pb po : Nat) (L : List Nat) (J Jx : List (List Int) → World → Prop) (W : World) (done fs : List (List Int)) : Bool → World → Prop
  | true, W' => PlLay r q B wb m out aO kO l n0 pb po W' ∧ Ext (m :: L) W W' ∧ J (done ++ fs) W'
  | false, W' => ∃ r', r' <+: fs ∧ Jx (done ++ r') W'
/-- Where a plan lies. -/
def PlanP (n0 : Nat) (a : Option Addr) (plan : List Int) (W : World) : Prop := (a = none ∧ plan = []) ∨ ∃ b o, a = some ⟨b, o, none⟩ ∧ n0 + 2 ≤ b ∧ b < W.heap.size ∧ ∀ j, j < plan.length → W.cell? ⟨b, o + j, none⟩ = some (.int .i64 (nth plan j))
theorem PlanP.at_ {n0 : Nat} {a : Option Addr} {plan : List Int} {W : World} (h : PlanP n0 a plan W) : IntsAt W W.heap.size a plan := by
  rcases h with ⟨_, h⟩ | ⟨b, o, h1, _, h2, h3⟩
  · exact .inl h
  · exact .inr ⟨b, o, h1, h2, h3⟩
theorem PlanP.far {n0 : Nat} {a : Option Addr} {plan : List Int} {W : World} (h : PlanP n0 a plan W) : ∀ b o, a = some ⟨b, o, none⟩ → n0 + 2 ≤ b := by
  rintro b o e
  rcases h with ⟨h, _⟩ | ⟨b', o', h1, h2, _⟩
  · rw [h] at e; cases e
  · rw [h1] at e; cases e; exact h2
theorem PlanP.ext {n0 : Nat} {a : Option Addr} {plan : List Int} {L : List Nat} {W W' : World} (h : PlanP n0 a plan W) (he : Ext L W W') (hL : ∀ k ∈ L, k < n0 + 2) : PlanP n0 a plan W' := by
  rcases h with h | ⟨b, o, h1, h2, h3, h4⟩
  · exact .inl h
  · exact .inr ⟨b, o, h1, h2, Nat.lt_of_lt_of_le h3 he.size, fun j hj => (he.cell h3 (fun hm => by have := hL b hm; omega)).trans (h4 j hj)⟩
theorem PlanP.up {n0 : Nat} {a : Option Addr} {plan : List Int} {W W' : World} (h : PlanP n0 a plan W) (hb : Below W.heap.size W W') : PlanP n0 a plan W' := h.ext (L := []) (Ext.of_below hb) (by simp)
theorem PlanP.own {n0 base : Nat} {A : Option Addr} {plan : List Int} {K n : Nat} {W : World} (h : W.ownsRow base 3 1 (.slice A n K) n (ints plan)) (hb : n0 + 2 ≤ base) : PlanP n0 A plan W := by
  have hl : plan.length = n := by have := h.1; simpa [ints] using this
  obtain ⟨A', c', e, hi, _⟩ := own_ints h
  simp only [Value.slice.injEq] at e
  obtain ⟨rfl, _, rfl⟩ := e
  rcases h.2 with ⟨e1, h0⟩ | ⟨g, cap, cur, e1, hbg, hh, _⟩
  · cases e1
    exact .inl ⟨rfl, List.eq_nil_of_length_eq_zero (by omega)⟩
  · simp only [Value.slice.injEq] at e1
    obtain ⟨rfl, _, _⟩ := e1
    refine .inr ⟨g, 0, rfl, by omega, (Array.getElem?_eq_some_iff.1 hh).1, fun j hj => ?_⟩
    obtain ⟨b, o, e2, _, h3⟩ := hi.at_ (by omega)
    cases e2
    exact h3 j hj
theorem clonePl {n0 : Nat} {a : Option Addr} {plan : List Int} {k : Nat} {w : World} (h : PlanP n0 a plan w) (hl : plan.length ≤ 1000) :
    Calls Tryz.prog 101 #[.slice a plan.length k] w fun e w' => ∃ A1 K1, e = .returned (.slice A1 plan.length K1) ∧ w'.ownsRow w.heap.size 3 1 (.slice A1 plan.length K1) plan.length (ints plan) ∧ Below w.heap.size w w' := by
  rcases h with ⟨rfl, rfl⟩ | ⟨b, o, rfl, h1, h2, h3⟩
  · refine (clone_nil 0 k w).mono ?_
    rintro e w' ⟨rfl, rfl⟩
    exact ⟨none, 0, rfl, World.ownsRow_nil _ _ _ _, Below.refl _ _⟩
  · refine (clone_c plan b o k w (by omega) (.inr ⟨b, o, rfl, h2, h3⟩)).mono ?_
    rintro e w' ⟨v, rfl, hr, hb⟩
    obtain ⟨A, K, rfl⟩ := own_shape6 hr
    exact ⟨A, K, rfl, hr, hb⟩
theorem addAt_bd {n : List Int} {i : Nat} (hn : ∀ j, 0 ≤ nth n j ∧ nth n j ≤ i) (h : Nat) (j : Nat) : 0 ≤ nth (addAt n h 1) j ∧ nth (addAt n h 1) j ≤ ((i + 1 : Nat) : Int) := by
  have := hn j
  by_cases hj : j < 5
  · rw [nth_addAt _ _ _ _ hj]; split <;> omega
  · rw [nth_out _ _ (by rw [addAt, rowI_len]; omega)]; omega
theorem nvs_add1 (n : List Int) (h : Nat) (h5 : h < 5) : ([.int .i64 (nth n 0), .int .i64 (nth n 1), .int .i64 (nth n 2), .int .i64 (nth n 3), .int .i64 (nth n 4)].set h (.int .i64 (nth n h + 1)) : List Value).toArray = nvs (addAt n h 1) := by
  match h, h5 with
  | 0, _ => rfl
  | 1, _ => rfl
  | 2, _ => rfl
  | 3, _ => rfl
  | 4, _ => rfl
/-- The plans with hour p1 + k for a bath. -/
def plansK (r : Rm) (out : List Int) (d i : Nat) (plan n : List Int) (k : Nat) : List (List Int) :=
  if canB r (addAt n (p1 r.baths i + (k : Int)).toNat 1) = true then plansF r out d (i + 1) (plan ++ [p1 r.baths i + (k : Int)]) (addAt n (p1 r.baths i + (k : Int)).toNat 1) else []
theorem plansF_in {r : Rm} {out : List Int} {d i : Nat} {plan n : List Int} (h : hasI (i : Int) out = false) : plansF r out (d + 1) i plan n = (List.range (p2 r.baths i - p1 r.baths i + 1).toNat).flatMap (plansK r out d i plan n) := by
  rw [plansF, if_neg (by simp [h])]; rfl
theorem plansF_out {r : Rm} {out : List Int} {d i : Nat} {plan n : List Int} (h : hasI (i : Int) out = true) : plansF r out (d + 1) i plan n = plansF r out d (i + 1) plan n := by
  rw [plansF, if_pos h]
set_option maxRecDepth 100000 in
set_option maxHeartbeats 8000000 in
theorem plan_rec (r : Rm) (q : RA) (B wb m : Nat) (out : List Int) (aO : Option Addr) (kO l n0 pb po : Nat) (L : List Nat) (tot : List (List Int)) (J Jx : List (List Int) → World → Prop) (hs : PlSep B wb m n0 pb po aO L)
    (hJ : ∀ pre A B', J pre A → n0 ≤ A.heap.size → Grown (fun k => k = m ∨ (n0 ≤ k ∧ k < n0 + 2)) A B' → J pre B')
    (hY : ∀ pre (x : List Int) vs W1, PlanE r q B wb m n0 x vs W1 → pre ++ [x] <+: tot → J pre W1 → n0 + 2 ≤ W1.heap.size → YieldAt Fence.wide 0 Tryz.prog l vs W1 fun e W' =>
      (e = .returned (.bool true) ∧ J (pre ++ [x]) W' ∧ Ext L W1 W') ∨ (e = .returned (.bool false) ∧ Jx (pre ++ [x]) W')) (hout : out.length ≤ 1000) :
    ∀ (d i : Nat) (plan n : List Int) (a : Option Addr) (k : Nat) (done : List (List Int)) (W : World), i + d = r.baths.length → n0 + 2 ≤ W.heap.size → PlLay r q B wb m out aO kO l n0 pb po W → PlanP n0 a plan W → plan.length ≤ i → (∀ j, 0 ≤ nth n j ∧ nth n j ≤ i) → J done W → done ++ plansF r out d i plan n <+: tot →
    Calls Tryz.prog 134 #[.slice a plan.length k, nv n, .int .i64 i, .pointer (some ⟨pb, 0, none⟩), .pointer (some ⟨n0, 0, none⟩), .pointer (some ⟨po, 0, none⟩), .pointer (some ⟨n0 + 1, 0, none⟩)] W fun e W' =>
      ∃ bb, e = .returned (.bool bb) ∧ PlR r q B wb m out aO kO l n0 pb po L J Jx W done (plansF r out d i plan n) bb W' := by
  intro d
  induction d with
  | zero =>
    intro i plan n a k done W hi hsz hlay hpl hpi hn hj htot
    have h5 := hlay.bw.ok.n5
    refine (plan_leaf r q B wb m out aO kO l n0 pb po L tot J Jx hs hJ hY plan n a k i done W (by omega) hsz hlay hpl.at_ hpl.far (fun j => by have := hn j; omega) hj htot).mono ?_
    rintro e W' (⟨rfl, h1, h2, h3⟩ | ⟨rfl, h⟩)
    · exact ⟨true, rfl, h1, h2, h3⟩
    · exact ⟨false, rfl, h⟩
  | succ d ih =>
    intro i plan n a k done W hi hsz hlay hpl hpi hn hj htot
    have ho := hlay.bw.ok
    have h5 := ho.n5
    have hi5 : i < r.baths.length := by omega
    have hbi := ho.bs i hi5
    have hl4 := ho.cop.l4
    obtain ⟨bB, ob, ha5, hbb, hbat⟩ := hlay.bw.at_.baths.at_ (by omega)
    have HBAT : Hid (∀ w1, Below W.heap.size W w1 → w1.cell? ⟨bB, ob + i * 2, none⟩ = some (.int .i64 (p1 r.baths i)) ∧ w1.cell? ⟨bB, ob + i * 2 + 1, none⟩ = some (.int .i64 (p2 r.baths i))) := fun w1 hb => ⟨cell_later hb (hbat i hi5).1, cell_later hb (hbat i hi5).2⟩
    have HA5 := Lib.hid ha5
    have HLAY := Lib.hid hlay
    have HS := Lib.hid hs
    have HJJ := Lib.hid hj
    have HJ := Lib.hid hJ
    have HN := Lib.hid hn
    have HPL := Lib.hid hpl
    have HTOT := Lib.hid htot
    have HIH := Lib.hid ih
    have HOO := Lib.hid ho
    have HOUT : Hid (IntsAt (W.alloc (.cells (nvs n) 115)) (W.alloc (.cells (nvs n) 115)).heap.size aO out) := (hlay.outs.ex (L := []) (Ext.of_below (bl_al (Below.refl _ _) _)) (fun _ _ _ => by simp)).mono (by simp; omega)
    have hpo : W.cell? ⟨po, 0, none⟩ = some (.slice aO out.length kO) := hlay.pob 0
    have hpw : W.cell? ⟨pb, 0, none⟩ = some (.pointer (some ⟨wb, 0, none⟩)) := hlay.pw 0
    have hw13 : W.cell? ⟨wb, 13, none⟩ = some (.slice q.a5 r.baths.length q.c5) := by simp [World.cell?, hlay.bw.cells]
    have hne : ¬ ((i : Int) = (r.baths.length : Int)) := by omega
    have hneb : ((i : Int) == (r.baths.length : Int)) = false := by simpa using hne
    clear hlay hs hj hJ hY hn hpl htot ih ho ha5 hbat
    cases hhi : hasI (i : Int) out with
    | true =>
      have HHI := Lib.hid hhi
      have HPF := Lib.hid (plansF_out (r := r) (d := d) (plan := plan) (n := n) hhi)
      clear hhi
      go_enter Tryz.func134, Tryz.ntmps134
      go_wp2_with (first | (go_at_call 134; go_loud (refine (HIH.out (i + 1) plan n a k done w1 (by omega) (by have := HB1.out.size; omega) HL1.out (HPL.out.up HB1.out) (by omega) (fun j => by have := HN.out j; omega) (HJ.out _ _ _ HJJ.out (by omega) (Grown.bl HB1.out)) (by rw [← HPF.out]; exact HTOT.out)).mono ?_; rintro e w7 ⟨bo, rfl, hR⟩; have HR := Lib.hid hR; clear hR)) | (go_at_call 135; go_loud (refine (contains_c (i : Int) out aO kO _ (by omega) HOUT.out).mono ?_; rw [HHI.out]; rintro e w1 ⟨rfl, hb⟩; have HB1 : Hid (Below W.heap.size W w1) := bl_tr (bl_al (Below.refl _ _) _) hb; have HN1 : Hid (Box w1 W.heap.size (nvs n)) := (Box.new W (nvs n) 115 (0, 0)).bl (by simp) hb; have HL1 : Hid (PlLay r q B wb m out aO kO l n0 pb po w1) := HLAY.out.up HB1.out; have hn1 := HN1.out; have hch1 := HL1.out.ch; unfold Box at hn1 hch1; clear hb)))
      go_ret
      refine ⟨bo, rfl, ?_⟩
      rw [HPF.out]
      cases bo with
      | true => exact ⟨HR.out.1, (Ext.of_below HB1.out).trans HR.out.2.1, HR.out.2.2⟩
      | false => exact HR.out
    | false =>
      have HHI := Lib.hid hhi
      have HPF := Lib.hid (plansF_in (r := r) (d := d) (plan := plan) (n := n) hhi)
      clear hhi
      go_enter Tryz.func134, Tryz.ntmps134
      go_wp2_with (first | (go_at_call 91; go_loud (refine (first_c _ _ _).mono ?_; rintro e w2 ⟨rfl, hb⟩; have HB2 : Hid (Below W.heap.size W w2) := bl_tr HB1.out hb; have HL2 : Hid (PlLay r q B wb m out aO kO l n0 pb po w2) := HLAY.out.up HB2.out; have HN2 : Hid (Box w2 W.heap.size (nvs n)) := HN1.out.bl (by simp) hb; clear hb hpw1 hw131 hc1 hc2)) | (go_at_call 135; go_loud (refine (contains_c (i : Int) out aO kO _ (by omega) HOUT.out).mono ?_; rw [HHI.out]; rintro e w1 ⟨rfl, hb⟩; have HB1 : Hid (Below W.heap.size W w1) := bl_tr (bl_al (Below.refl _ _) _) hb; have HN1 : Hid (Box w1 W.heap.size (nvs n)) := (Box.new W (nvs n) 115 (0, 0)).bl (by simp) hb; have HL1 : Hid (PlLay r q B wb m out aO kO l n0 pb po w1) := HLAY.out.up HB1.out; have hpw1 : w1.cell? ⟨pb, 0, none⟩ = some (.pointer (some ⟨wb, 0, none⟩)) := HL1.out.pw 0; have hw131 : w1.cell? ⟨wb, 13, none⟩ = some (.slice (some ⟨bB, ob, none⟩) r.baths.length q.c5) := (by simp [World.cell?, HL1.out.bw.cells, HA5.out]); have hc1 := (HBAT.out w1 HB1.out).1; have hc2 := (HBAT.out w1 HB1.out).2; clear hb)))
      go_loopw [11] (fun h wr => ∃ (kk hh : Nat), (kk : Int) ≤ p2 r.baths i - p1 r.baths i + 1 ∧ p1 r.baths i + (kk : Int) = (hh : Int) ∧ h = .int .i64 (hh : Int) ∧ PlLay r q B wb m out aO kO l n0 pb po wr ∧ Box wr W.heap.size (nvs n) ∧ PlanP n0 a plan wr ∧ Ext (m :: L) W wr ∧ J (done ++ (List.range kk).flatMap (plansK r out d i plan n)) wr) (fun h _ => (p2 r.baths i + 1 - intOf h).toNat)
      case atStart =>
        refine ⟨0, (p1 r.baths i).toNat, by omega, by omega, (by congr 1; omega), HL2.out, HN2.out, HPL.out.up HB2.out, Ext.of_below HB2.out, ?_⟩
        simpa using HJ.out _ _ _ HJJ.out (by omega) (Grown.bl HB2.out)
      case round =>
        obtain ⟨kk, hh, hk, hkh, rfl, hlay, hnb, hpl, hext, hj⟩ := hrel
        have HL3 := Lib.hid hlay
        have HN3 := Lib.hid hnb
        have HP3 := Lib.hid hpl
        have HX3 := Lib.hid hext
        have HJ3 := Lib.hid hj
        have hpw3 : wr.cell? ⟨pb, 0, none⟩ = some (.pointer (some ⟨wb, 0, none⟩)) := hlay.pw 0
        have hw133 : wr.cell? ⟨wb, 13, none⟩ = some (.slice (some ⟨bB, ob, none⟩) r.baths.length q.c5) := by simp [World.cell?, hlay.bw.cells, HA5.out]
        obtain ⟨b6, o6, e6, _, hbat⟩ := hlay.bw.at_.baths.at_ (by omega)
        rw [HA5.out] at e6
        cases e6
        obtain ⟨hc1, hc2⟩ := hbat i hi5
        clear hbat hlay hpl hext hj
        unfold Box nvs at hnb
        by_cases hle : (hh : Int) ≤ p2 r.baths i
        · have hh5 : hh < 5 := by omega
          have hh51 : (hh : Int) < 5 := by omega
          have hcx : ∀ X : World, (X.alloc (.cells (nvs n) 115)).cell? ⟨X.heap.size, hh, none⟩ = some (.int .i64 (nth n hh)) := fun X => (Box.new X (nvs n) 115 (0, 0) hh).trans (nvs_at n hh hh5)
          have hfx : ∀ X : World, (X.alloc (.cells (nvs n) 115)).frozen? ⟨X.heap.size, hh, none⟩ = false := fun X => by have h := World.alloc_heap_new X (.cells (nvs n) 115 (0, 0)); unfold World.frozen?; rw [h]; rfl
          have hnh := HN.out hh
          go_wp2_with (first | (go_at_call 92; go_loud (refine (last_c _ _ _).mono ?_; rintro e w3 ⟨rfl, hb⟩; have HB3 : Hid (Below wr.heap.size wr w3) := hb; have HN4 : Hid (Box w3 W.heap.size (nvs n)) := HN3.out.bl (by simp) hb; have hn4 := HN4.out; unfold Box nvs at hn4; clear hb hnb hpw3 hw133 hc1 hc2)))
          rw [nvs_add1 n hh hh5]
          have HHX : Hid (p1 r.baths i + (kk : Int) = (hh : Int)) := hkh
          obtain ⟨W4, hW4⟩ : ∃ W4, w3.alloc (.cells (nvs (addAt n hh 1)) 115) = W4 := ⟨_, rfl⟩
          rw [hW4]
          have HB4 : Hid (Below wr.heap.size wr W4) := by rw [← hW4]; exact bl_al HB3.out _
          have HXB : Hid (Box W4 w3.heap.size (nvs (addAt n hh 1))) := by rw [← hW4]; exact Box.new _ _ _ _
          have HL4 : Hid (PlLay r q B wb m out aO kO l n0 pb po W4) := HL3.out.up HB4.out
          have HX4 : Hid (Ext (m :: L) W W4) := HX3.out.trans (Ext.of_below HB4.out)
          have HP4 : Hid (PlanP n0 a plan W4) := HP3.out.up HB4.out
          have HJ4 : Hid (J (done ++ (List.range kk).flatMap (plansK r out d i plan n)) W4) := HJ.out _ _ _ HJ3.out (by have := HX3.out.size; omega) (Grown.bl HB4.out)
          have HW4 : Hid (W.heap.size < W4.heap.size) := Nat.lt_of_lt_of_le (HN4.out.lt (by simp)) (by rw [← hW4]; simp)
          have HND : Hid (Box W4 W.heap.size (nvs n)) := HN3.out.bl (by simp) HB4.out
          have hkn : kk < (p2 r.baths i - p1 r.baths i + 1).toNat := by omega
          have HPRE : Hid (plansF r out (d + 1) i plan n = (List.range (p2 r.baths i - p1 r.baths i + 1).toNat).flatMap (plansK r out d i plan n)) := HPF.out
          have HA1 : Hid (∀ j, 0 ≤ nth (addAt n hh 1) j ∧ nth (addAt n hh 1) j ≤ ((i + 1 : Nat) : Int)) := addAt_bd HN.out hh
          clear hW4 hcx hfx hn4
          have HPO : Hid (∀ w, Below W4.heap.size W4 w → Calls Tryz.prog 127 #[roomV r q, nv (addAt n hh 1)] w fun e w' => e = .returned (.bool (canB r (addAt n hh 1))) ∧ Below w.heap.size w w') := fun w hb => possible_c r q _ w ((HL4.out.bw.at_.below (hb.mono (by have := HL4.out.bw.lt; have := HL4.out.bw.bm; have := HL4.out.bw.wbm; omega))).mono (by have := HL4.out.bw.lt; have := HL4.out.bw.bm; have := HL4.out.bw.wbm; have := hb.size; omega)) HOO.out.fine (fun j => (HA1.out j).1)
          cases hcb : canB r (addAt n hh 1) with
          | true =>
            have HCB := Lib.hid hcb
            have HPK : Hid (plansK r out d i plan n kk = plansF r out d (i + 1) (plan ++ [(hh : Int)]) (addAt n hh 1)) := by
              unfold Hid plansK
              rw [HHX.out, Int.toNat_natCast, if_pos hcb]
            rw [hcb] at HPO
            clear hcb
            refine r134 _ rfl _ r q wb m w3.heap.size pb n0 po a k plan (addAt n hh 1) (hh : Int) i (PlR r q B wb m out aO kO l n0 pb po L J Jx W4 (done ++ (List.range kk).flatMap (plansK r out d i plan n)) (plansF r out d (i + 1) (plan ++ [(hh : Int)]) (addAt n hh 1))) W4 rfl rfl rfl rfl rfl rfl rfl HL4.out.pw (fun o => by simp [World.cell?, HL4.out.bw.cells]) HXB.out HL4.out.ch (by omega) (by omega) HPO.out (fun w hb => clonePl (HP4.out.up hb) (by omega)) ?_ ?_
            · intro A2 K2 w hb hr
              have hb4 := hb.size
              have := HIH.out (i + 1) (plan ++ [(hh : Int)]) (addAt n hh 1) A2 K2 (done ++ (List.range kk).flatMap (plansK r out d i plan n)) w (by omega) (by have := HX4.out.size; omega) (HL4.out.up hb) (PlanP.own hr (by have := HX4.out.size; omega)) (by simp; omega) HA1.out (HJ.out _ _ _ HJ4.out (by have := HX4.out.size; omega) (Grown.bl hb)) (by
                refine List.IsPrefix.trans ?_ HTOT.out
                rw [HPRE.out, List.append_assoc]
                exact (List.prefix_append_right_inj _).2 (prefix_flat hkn (by rw [HPK.out]; exact List.prefix_refl _)))
              rw [List.length_append, List.length_singleton] at this
              refine this.mono ?_
              rintro e w' ⟨bo, rfl, hR⟩
              refine ⟨bo, rfl, ?_⟩
              cases bo with
              | true => exact ⟨hR.1, (Ext.of_below hb).trans hR.2.1, hR.2.2⟩
              | false => exact hR
            · intro ac w5 bo hF h85 hR
              have HR := Lib.hid hR
              obtain ⟨f, rfl⟩ := hF.lit86 rfl h85
              clear hF h85 hR
              simp only [slots, List.getElem?_toArray, List.getElem?_cons_succ, List.getElem?_cons_zero, Option.getD_some]
              cases bo with
              | true =>
                have hmn : m < n0 := by have := HLAY.out.bw.wbm; have := HS.out.b1; omega
                have hL0 : ∀ x ∈ m :: L, x < n0 := fun x hx => by
                  rcases List.mem_cons.1 hx with rfl | hx
                  · exact hmn
                  · exact (HS.out.l1 x hx).1
                have HL0 := Lib.hid hL0
                clear hL0
                go_wp2
                go_roundw
                case rel =>
                  refine ⟨kk + 1, hh + 1, by omega, by have := HHX.out; omega, by go_num, HR.out.1, HND.out.ex (by simp) HR.out.2.1 (fun hm => by have := HL0.out _ hm; omega), HP4.out.ext HR.out.2.1 (fun x hx => by have := HL0.out _ hx; omega), HX4.out.trans HR.out.2.1, ?_⟩
                  rw [range_split, HPK.out, ← List.append_assoc]
                  exact HR.out.2.2
                case measure => simp [intOf]; omega
              | false =>
                go_wp2
                go_ret
                obtain ⟨r', hp', hx'⟩ := HR.out
                refine ⟨false, rfl, (List.range kk).flatMap (plansK r out d i plan n) ++ r', ?_, by rw [← List.append_assoc]; exact hx'⟩
                rw [HPRE.out]
                exact prefix_flat hkn (by rw [HPK.out]; exact hp')
          | false =>
            have HPK : Hid (plansK r out d i plan n kk = []) := by
              unfold Hid plansK
              rw [HHX.out, Int.toNat_natCast, if_neg (by rw [hcb]; simp)]
            have HPQ : Hid (∀ d', Calls Tryz.prog 127 #[roomV r q, nv (addAt n hh 1)] (plus W4 d') fun e w' => e = .returned (.bool false) ∧ Below (plus W4 d').heap.size (plus W4 d') w') := fun d' => by have := HPO.out _ (plus_below W4 d'); rw [hcb] at this; exact this
            clear hcb HPO
            have hpw4 : W4.cell? ⟨pb, 0, none⟩ = some (.pointer (some ⟨wb, 0, none⟩)) := HL4.out.pw 0
            have k0 : W4.cell? ⟨wb, 0, none⟩ = some (.int .i64 r.cop.last) := by simp [World.cell?, HL4.out.bw.cells]
            have k1 : W4.cell? ⟨wb, 1, none⟩ = some (.int .i64 r.cop.start) := by simp [World.cell?, HL4.out.bw.cells]
            have k2 : W4.cell? ⟨wb, 2, none⟩ = some (.int .i64 r.cop.most) := by simp [World.cell?, HL4.out.bw.cells]
            have k3 : W4.cell? ⟨wb, 3, none⟩ = some (.int .i64 r.cop.per) := by simp [World.cell?, HL4.out.bw.cells]
            have k4 : W4.cell? ⟨wb, 4, none⟩ = some (.int .i64 r.cop.shovels) := by simp [World.cell?, HL4.out.bw.cells]
            have k5 : W4.cell? ⟨wb, 5, none⟩ = some (.slice q.q.a1 r.cop.coal.length q.q.c1) := by simp [World.cell?, HL4.out.bw.cells]
            have k6 : W4.cell? ⟨wb, 6, none⟩ = some (.slice q.q.a2 r.cop.want.length q.q.c2) := by simp [World.cell?, HL4.out.bw.cells]
            have k7 : W4.cell? ⟨wb, 7, none⟩ = some (.int .i64 r.cop.hlo) := by simp [World.cell?, HL4.out.bw.cells]
            have k8 : W4.cell? ⟨wb, 8, none⟩ = some (.int .i64 r.cop.hhi) := by simp [World.cell?, HL4.out.bw.cells]
            have k9 : W4.cell? ⟨wb, 9, none⟩ = some (.slice q.q.a3 r.cop.loss.length q.q.c3) := by simp [World.cell?, HL4.out.bw.cells]
            have k10 : W4.cell? ⟨wb, 10, none⟩ = some (.slice q.q.a4 r.cop.rds.length q.q.c4) := by simp [World.cell?, HL4.out.bw.cells]
            have k11 : W4.cell? ⟨wb, 11, none⟩ = some (.int .i64 r.buckets) := by simp [World.cell?, HL4.out.bw.cells]
            have k12 : W4.cell? ⟨wb, 12, none⟩ = some (.int .i64 r.places) := by simp [World.cell?, HL4.out.bw.cells]
            have k13 : W4.cell? ⟨wb, 13, none⟩ = some (.slice q.a5 r.baths.length q.c5) := by simp [World.cell?, HL4.out.bw.cells]
            have x0 : W4.cell? ⟨w3.heap.size, 0, none⟩ = some (.int .i64 (nth (addAt n hh 1) 0)) := HXB.out 0
            have x1 : W4.cell? ⟨w3.heap.size, 1, none⟩ = some (.int .i64 (nth (addAt n hh 1) 1)) := HXB.out 1
            have x2 : W4.cell? ⟨w3.heap.size, 2, none⟩ = some (.int .i64 (nth (addAt n hh 1) 2)) := HXB.out 2
            have x3 : W4.cell? ⟨w3.heap.size, 3, none⟩ = some (.int .i64 (nth (addAt n hh 1) 3)) := HXB.out 3
            have x4 : W4.cell? ⟨w3.heap.size, 4, none⟩ = some (.int .i64 (nth (addAt n hh 1) 4)) := HXB.out 4
            refine wp_region_plus (by kernel_rfl) ?_
            repeat (go_big_quiet_step ((go_at_call 127; exact Calls.pl (HPQ.out _))))
            refine wpQuiet_nil ?_
            rintro _ ⟨d', rfl⟩
            go_wp2
            go_roundw
            case rel =>
              refine ⟨kk + 1, hh + 1, by omega, by have := HHX.out; omega, by go_num, HL4.out.up (bl_pl (Below.refl _ _) d'), HND.out.plus d' (by simp), HP4.out.up (bl_pl (Below.refl _ _) d'), HX4.out.trans (Ext.of_below (bl_pl (Below.refl _ _) d')), ?_⟩
              rw [range_split, HPK.out, List.append_nil]
              exact HJ.out _ _ _ HJ4.out (by have := HX4.out.size; omega) (Grown.bl (bl_pl (Below.refl _ _) d'))
            case measure => simp [intOf]; omega
        · have HKN : Hid (kk = (p2 r.baths i - p1 r.baths i + 1).toNat) := by unfold Hid; omega
          go_wp2_with (first | (go_at_call 92; go_loud (refine (last_c _ _ _).mono ?_; rintro e w3 ⟨rfl, hb⟩; have HB3 : Hid (Below wr.heap.size wr w3) := hb; have HN4 : Hid (Box w3 W.heap.size (nvs n)) := HN3.out.bl (by simp) hb; have hn4 := HN4.out; unfold Box nvs at hn4; clear hb hnb hpw3 hw133 hc1 hc2)))
          go_ret
          refine ⟨true, rfl, HL3.out.up HB3.out, HX3.out.trans (Ext.of_below HB3.out), ?_⟩
          rw [HPF.out, ← HKN.out]
          exact HJ.out _ _ _ HJ3.out (by have := HX3.out.size; omega) (Grown.bl HB3.out)
end Go.Proofs.YtpgnplmjfhdncaaGreat
/- The iterator of plans, whole. -/
namespace Go.Proofs.YtpgnplmjfhdncaaGreat
open Go.RowKit
attribute [local go_sem] Oper.semAt_some
set_option linter.unusedVariables false
theorem plans_c (wb : Nat) (aO : Option Addr) (n kO : Nat) (w : World) : Calls Tryz.prog 90 #[.pointer (some ⟨wb, 0, none⟩), .slice aO n kO] w fun e w' => e = .returned (.func (.func 133) #[] #[.pointer (some ⟨w.heap.size, 0, none⟩), .pointer (some ⟨w.heap.size + 1, 0, none⟩)]) ∧ w' = (w.alloc (.cells #[.pointer (some ⟨wb, 0, none⟩)] 113)).alloc (.cells #[.slice aO n kO] 22) := by
  go_enter Tryz.func90, Tryz.ntmps90
  go_wp2
  go_ret
  exact ⟨rfl, rfl⟩
/-- All sure plans of the baths but those out. -/
def plansL (r : Rm) (out : List Int) : List (List Int) := plansF r out r.baths.length 0 [] []
set_option maxRecDepth 100000 in
set_option maxHeartbeats 8000000 in
theorem plans_it (r : Rm) (q : RA) (B wb m : Nat) (out : List Int) (aO : Option Addr) (kO pb po : Nat) (L : List Nat) (W : World) (hbw : BW r q B wb m W) (hpw : Box W pb #[.pointer (some ⟨wb, 0, none⟩)]) (hpo : Box W po #[.slice aO out.length kO]) (hao : IntsAt W W.heap.size aO out) (hs : PlSep B wb m W.heap.size pb po aO L) (hout : out.length ≤ 1000) :
    SeqE (W.heap.size + 2) (fun k => k = m ∨ (W.heap.size ≤ k ∧ k < W.heap.size + 2)) (Ext L) Tryz.prog 133 #[.pointer (some ⟨pb, 0, none⟩), .pointer (some ⟨po, 0, none⟩)] (PlanE r q B wb m W.heap.size) (plansL r out) (fun W' => BW r q B wb m W') W := by
  intro l J Jx hJ hY hj0
  have hrec := plan_rec r q B wb m out aO kO l W.heap.size pb po L (plansL r out) J Jx hs hJ hY hout r.baths.length 0 [] [] none 0 []
  have HREC := Lib.hid hrec
  have HBW := Lib.hid hbw
  have HPW := Lib.hid hpw
  have HPO := Lib.hid hpo
  have HAO := Lib.hid hao
  have HJ := Lib.hid hJ
  have HJ0 := Lib.hid hj0
  obtain ⟨W2, hW2⟩ : ∃ W2, (W.alloc (.cells #[.func (.yield l) #[] #[]] 138)).alloc (.cells #[.func (.func 134) #[] #[.pointer (some ⟨pb, 0, none⟩), .pointer (some ⟨W.heap.size, 0, none⟩), .pointer (some ⟨po, 0, none⟩), .pointer (some ⟨W.heap.size + 1, 0, none⟩)]] 175) = W2 := ⟨_, rfl⟩
  have HB : Hid (Below W.heap.size W W2) := by rw [← hW2]; exact bl_al (bl_al (Below.refl _ _) _) _
  have HS2 : Hid (W2.heap.size = W.heap.size + 2) := by rw [← hW2]; simp [Hid]
  have HLAY : Hid (PlLay r q B wb m out aO kO l W.heap.size pb po W2) := by
    refine ⟨hbw.up HB.out, hpw.bl (by simp) HB.out, ?_, hpo.bl (by simp) HB.out, ?_, hao.below HB.out⟩
    · rw [← hW2]; exact (Box.new _ _ _ _).al (by simp) _
    · rw [← hW2]; exact Box.new' _ _ _ _ (by simp)
  have HW2 := Lib.hid hW2
  clear hW2 hrec hJ hY hj0 hs hbw hpw hpo hao
  refine callsIn_wide.2 ?_
  show Calls Tryz.prog 133 #[.func (.yield l) #[] #[], .pointer (some ⟨pb, 0, none⟩), .pointer (some ⟨po, 0, none⟩)] W _
  go_enter Tryz.func133, Tryz.ntmps133
  go_wp2_with (first | (go_at_call 134; rw [HW2.out]; refine (HREC.out W2 (by omega) (by have := HS2.out; omega) HLAY.out (.inl ⟨rfl, rfl⟩) (by simp) (fun j => by simp [nth]) (HJ.out _ _ _ HJ0.out (Nat.le_refl _) (Grown.bl HB.out)) (by rw [List.nil_append]; exact List.prefix_refl _)).mono ?_; rintro e w7 ⟨bo, rfl, hR⟩; have HR := Lib.hid hR; clear hR))

  go_end0
  refine ⟨⟨_, rfl⟩, ?_⟩
  have hR := HR.out
  cases bo with
  | true => exact .inl ⟨hR.2.2, hR.1.bw⟩
  | false =>
    obtain ⟨r', h1, h2⟩ := hR
    exact .inr ⟨r', h1, h2⟩
end Go.Proofs.YtpgnplmjfhdncaaGreat
/- Is there a sure plan of all baths but some. -/
namespace Go.Proofs.YtpgnplmjfhdncaaGreat
open Go.RowKit
attribute [local go_sem] Oper.semAt_some
set_option linter.unusedVariables false
theorem Ext.putObj {L : List Nat} {w W : World} (h : Ext L w W) {l : Nat} (hl : l ∈ L ∨ w.heap.size ≤ l) (o : Obj) : Ext L w (W.putObj l o) := by
  have hg := grownBy_putObj' W l o
  exact ⟨hg.os.trans h.os, hg.tape.trans h.tape, hg.output.trans h.output, Nat.le_trans h.size hg.size, fun k hk hn => (hg.block k (Nat.lt_of_lt_of_le hk h.size) (fun e => by cases e; rcases hl with hl | hl; exact hn hl; omega)).trans (h.block k hk hn)⟩
theorem Ext.of_grown {T : Nat → Prop} {L : List Nat} {w w' W : World} (h : Ext L w w') (hg : Grown T w' W) (hT : ∀ k, T k → k < w.heap.size → k ∈ L) : Ext L w W :=
  ⟨hg.os.trans h.os, hg.tape.trans h.tape, hg.output.trans h.output, Nat.le_trans h.size hg.size, fun k hk hn => (hg.block k (Nat.lt_of_lt_of_le hk h.size) (fun t => hn (hT k t hk))).trans (h.block k hk hn)⟩
theorem run_loadVar_one {ty : TypeId} {d : TypeDesc} (hu : Tryz.prog.underlying ty = some d) (hd : (match d with | .struct _ | .array _ _ => true | _ => false) = false) {w : World} {a : Addr} {v : Value} (hc : w.cell? a = some v) : (loadVar ty a).run Tryz.prog w = .ok v w := by
  have hag : (isAgg ty).run Tryz.prog w = .ok false w := by
    simp [isAgg, run_underlying hu]
    cases d <;> simp_all
  simp [loadVar, hag, hc]
theorem results_one {fn : Func} {p : Tmp} {ty : TypeId} (h : fn.results = #[.cell p ty]) {d : TypeDesc} (hu : Tryz.prog.underlying ty = some d) (hd : (match d with | .struct _ | .array _ _ => true | _ => false) = false) (tmps : Array Value) (w : World) (a : Addr) (v : Value) (hp : tmps.getD p undef = .pointer (some a)) (hc : w.cell? a = some v) : (results fn tmps).run Tryz.prog w = .ok v w := by
  have hp' : tmps[p]?.getD undef = .pointer (some a) := by simpa using hp
  simp [results, h, hp', asAddr, run_loadVar_one hu hd hc]
theorem results_two {fn : Func} {p p2 : Tmp} {ty ty2 : TypeId} (h : fn.results = #[.cell p ty, .cell p2 ty2]) {d d2 : TypeDesc} (hu : Tryz.prog.underlying ty = some d) (hd : (match d with | .struct _ | .array _ _ => true | _ => false) = false) (hu2 : Tryz.prog.underlying ty2 = some d2) (hd2 : (match d2 with | .struct _ | .array _ _ => true | _ => false) = false) (tmps : Array Value) (w : World) (a a2 : Addr) (v v2 : Value) (hp : tmps.getD p undef = .pointer (some a)) (hc : w.cell? a = some v) (hp2 : tmps.getD p2 undef = .pointer (some a2)) (hc2 : w.cell? a2 = some v2) : (results fn tmps).run Tryz.prog w = .ok (.tuple #[v, v2]) w := by
  have hp' : tmps[p]?.getD undef = .pointer (some a) := by simpa using hp
  have hp2' : tmps[p2]?.getD undef = .pointer (some a2) := by simpa using hp2
  simp [results, h, hp', hp2', asAddr, run_loadVar_one hu hd hc, run_loadVar_one hu2 hd2 hc2]
/-- Whether there is a sure plan of all baths but those out. -/
def restB (r : Rm) (out : List Int) : Bool := !(plansL r out).isEmpty
set_option maxRecDepth 100000 in
set_option maxHeartbeats 8000000 in
theorem rest_c (r : Rm) (q : RA) (B wb m : Nat) (out : List Int) (aO : Option Addr) (kO : Nat) (w : World) (hbw : BW r q B wb m w) (hao : IntsAt w w.heap.size aO out) (hfar : ∀ b o, aO = some ⟨b, o, none⟩ → b ≠ m ∧ b < w.heap.size) (hout : out.length ≤ 1000) :
    Calls Tryz.prog 100 #[.pointer (some ⟨wb, 0, none⟩), .slice aO out.length kO] w fun e w' => e = .returned (.bool (restB r out)) ∧ BW r q B wb m w' ∧ Ext [m] w w' := by
  refine (callsIn_wide (n := 0)).1 (callsIn_of_wp_marks Tryz.func100 rfl trivial ?_ rfl)
  simp only [Tryz.ntmps100, List.size_toArray, List.length_cons, List.length_nil, Nat.reduceAdd, Nat.reduceSub, Array.replicate_succ, Array.replicate_zero, List.push_toArray, List.append_toArray, List.nil_append, List.cons_append]
  have HBW := Lib.hid hbw
  have HAO := Lib.hid hao
  have HFAR := Lib.hid hfar
  clear hbw hao hfar
  gi_wp2_with (first | (refine ⟨trivial, rfl, ?_⟩; gi_at_call 90; refine (callsIn_wide.2 (plans_c wb aO out.length kO _)).mono ?_; rintro e w1 ⟨rfl, rfl⟩))
  have hm : m < w.heap.size := by have := HBW.out.lt; have := HBW.out.wbm; omega
  have hBm := HBW.out.bm
  obtain ⟨W0, hW0⟩ : ∃ W0, ((w.alloc (.cells #[.bool false] 4)).alloc (.cells #[.pointer (some ⟨wb, 0, none⟩)] 113)).alloc (.cells #[.slice aO out.length kO] 22) = W0 := ⟨_, rfl⟩
  rw [hW0]
  have HB0 : Hid (Below w.heap.size w W0) := by rw [← hW0]; exact bl_al (bl_al (bl_al (Below.refl _ _) _) _) _
  have HS0 : Hid (W0.heap.size = w.heap.size + 3) := by rw [← hW0]; simp [Hid]
  have HC0 : Hid (W0.heap[w.heap.size]? = some (.cells #[.bool false] 4 (0, 0))) := by rw [← hW0]; exact heap_al (heap_al (World.alloc_heap_new _ _) _) _
  have HPW : Hid (Box W0 (w.heap.size + 1) #[.pointer (some ⟨wb, 0, none⟩)]) := by rw [← hW0]; exact (Box.new' _ _ _ _ (by simp)).al (by simp) _
  have HPO : Hid (Box W0 (w.heap.size + 1 + 1) #[.slice aO out.length kO]) := by rw [← hW0]; exact Box.new' _ _ _ _ (by simp)
  clear hW0
  have hs0 := HS0.out
  refine wpIn_rangeE (P := Tryz.prog) (W0.heap.size + 4) (fun k => k = m ∨ (W0.heap.size + 2 ≤ k ∧ k < W0.heap.size + 4)) (Ext [W0.heap.size + 1, w.heap.size]) (gf := 133) (lb := #[.pointer (some ⟨w.heap.size + 1, 0, none⟩), .pointer (some ⟨w.heap.size + 1 + 1, 0, none⟩)]) rfl (enters_of Tryz.func133 (by kernel_rfl) rfl)
    (E := PlanE r q B wb m (W0.heap.size + 2)) (tot := plansL r out) (Fn := fun W' => BW r q B wb m W') ?hFn ?seq ?hT Ext.trans ?hKb ?hps
    (fun pre W => pre = [] ∧ W.heap[w.heap.size]? = some (.cells #[.bool false] 4 (0, 0)) ∧ Ext [m] w W)
    (fun c pre W => c = .ret ∧ pre ≠ [] ∧ W.heap[w.heap.size]? = some (.cells #[.bool true] 4 (0, 0)) ∧ Ext [m] w W ∧ BW r q B wb m W) ?hI ?hIx ?h0
    (fun x a' W => BW r q B wb m W ∧ ∃ A k, a' = { tmps := #[.pointer (some ⟨wb, 0, none⟩), .slice aO out.length kO, undef, undef, .pointer (some ⟨w.heap.size, 0, none⟩), .pointer (some ⟨wb, 0, none⟩), .slice aO out.length kO, .func (.func 133) #[] #[.pointer (some ⟨w.heap.size + 1, 0, none⟩), .pointer (some ⟨w.heap.size + 1 + 1, 0, none⟩)], .slice A x.length k], defers := [] }) ?assign ?ha1 ?body ?done ?stop
  case hFn => exact fun A B' h hsz hg => h.grown hg (by omega) (by have := HBW.out.lt; omega) (fun k hk => by omega)
  case seq =>
    intro rr
    have hsz : ((W0.alloc (.deferred (some []))).alloc (.loop rr)).heap.size = W0.heap.size + 2 := by simp
    have hb : Below W0.heap.size W0 ((W0.alloc (.deferred (some []))).alloc (.loop rr)) := bl_al (bl_al (Below.refl _ _) _) _
    have hb2 : Below w.heap.size w ((W0.alloc (.deferred (some []))).alloc (.loop rr)) := bl_al (bl_al HB0.out _) _
    have := plans_it r q B wb m out aO kO (w.heap.size + 1) (w.heap.size + 1 + 1) [W0.heap.size + 1, w.heap.size] ((W0.alloc (.deferred (some []))).alloc (.loop rr)) (HBW.out.up hb2) (HPW.out.bl (by simp) hb) (HPO.out.bl (by simp) hb) (HAO.out.up hb2)
      (by
        have hlt := HBW.out.lt
        have hwbm := HBW.out.wbm
        refine ⟨by omega, by omega, by omega, by omega, by omega, fun b o e => (HFAR.out b o e).1, fun k hk => ?_, fun b o e hk => ?_⟩
        · simp at hk; omega
        · have := (HFAR.out b o e).2; simp at hk; omega) hout
    rw [hsz] at this
    exact this
  case hT => constructor <;> omega
  case hKb => exact fun W o => (Ext.refl _ W).putObj (.inl (by simp)) o
  case hps => rintro x vs W ⟨⟨A, k, rfl, _⟩, _⟩; rfl
  case hI =>
    rintro pre A B' ⟨h1, h2, h3⟩ hsz hg
    exact ⟨h1, (hg.block _ (by omega) (by omega)).trans h2, h3.of_grown hg (fun k hk hk2 => by simp; omega)⟩
  case hIx =>
    rintro c pre A B' ⟨h1, h2, h3, h4, h5⟩ hsz hg
    exact ⟨h1, h2, (hg.block _ (by omega) (by omega)).trans h3, h4.of_grown hg (fun k hk hk2 => by omega), h5.grown hg (by omega) (by have := HBW.out.lt; omega) (fun k hk => by omega)⟩
  case h0 => exact ⟨rfl, HC0.out, Ext.of_below HB0.out⟩
  case assign =>
    rintro l pre x vs W K ⟨⟨A, k, rfl, hA, hfar⟩, hbw⟩ h1 h2 h3 hK
    have hk2 := hK _ W (Nat.le_refl _) (fun _ _ => rfl) (Ext.refl _ _) h3 ⟨hbw, A, k, rfl⟩
    clear hK
    gi_wp2
    simpa using hk2
  case ha1 =>
    rintro x a' A B' ⟨h1, h2⟩ hsz hg
    exact ⟨h1.grown hg (by omega) (by have := HBW.out.lt; omega) (fun k hk => by omega), h2⟩
  case body =>
    rintro l pre x a' W hpx h1 h2 ⟨hp, hc, he⟩ ⟨hbw, A, k, rfl⟩
    have hcell : W.cell? ⟨w.heap.size, 0, none⟩ = some (.bool false) := by simp [World.cell?, hc]
    have hfz : W.frozen? ⟨w.heap.size, 0, none⟩ = false := by simp [World.frozen?, hc]
    have HC := Lib.hid hc
    have HE := Lib.hid he
    have HW := Lib.hid hbw
    clear hc he hbw
    gi_wp2
    refine ⟨fun k hk => Below.heap_setCell _ _ _ _ (by simp; omega), rfl, by simp, ?_, HE.out.setCell (.inr (Nat.le_refl _)) _, ?_⟩
    · rw [heap_setCell_same _ _ _ _ _ _ HC.out]; rfl
    · exact HW.out.grown ((Grown.refl (fun k => k = w.heap.size) W).setCell (p := ⟨w.heap.size, 0, none⟩) (.inl rfl) _) (by omega) (by have := HBW.out.lt; omega) (fun k hk => by omega)
  case done =>
    rintro W ⟨h1, h2, h3⟩ hbw hD
    have hres : restB r out = false := by rw [restB, h1]; rfl
    have hcell : W.cell? ⟨w.heap.size, 0, none⟩ = some (.bool false) := by simp [World.cell?, h2]
    have hfz : W.frozen? ⟨w.heap.size, 0, none⟩ = false := by simp [World.frozen?, h2]
    have H2 := Lib.hid h2
    have HD := Lib.hid hD
    have HW := Lib.hid hbw
    have HR := Lib.hid hres
    clear h2 hD hbw h1 hres
    gi_wp2
    have hcs : (W.setCell ⟨w.heap.size, 0, none⟩ (.bool false)).heap[w.heap.size]? = some (.cells #[.bool false] 4 (0, 0)) := by rw [heap_setCell_same _ _ _ _ _ _ H2.out]; rfl
    have hs1 : (W.setCell ⟨w.heap.size, 0, none⟩ (.bool false)).heap.size = W.heap.size := by simp [World.setCell]
    have hDs : (W.setCell ⟨w.heap.size, 0, none⟩ (.bool false)).heap[W0.heap.size]? = some (.deferred (some [])) := (Below.heap_setCell _ _ _ _ (by simp; omega)).trans HD.out
    have hg : Grown (fun k => k = w.heap.size ∨ k = W0.heap.size) W ((W.setCell ⟨w.heap.size, 0, none⟩ (.bool false)).putObj W0.heap.size (.deferred none)) := ((Grown.refl (fun k => k = w.heap.size ∨ k = W0.heap.size) W).setCell (p := ⟨w.heap.size, 0, none⟩) (.inl (.inl rfl)) _).putObj (l := W0.heap.size) (.inl (.inr rfl)) _
    refine ⟨by simp, .inl ⟨_, _, rfl, run_takeDeferred hDs, ?_⟩⟩
    refine ⟨_, results_one Tryz.results100 Tryz.underlying4 rfl _ _ ⟨w.heap.size, 0, none⟩ (.bool false) (by simp) ?_, by rw [HR.out], HW.out.grown hg (by omega) (by have := HBW.out.lt; omega) (fun k hk => by omega), h3.of_grown hg (fun k hk hk2 => by omega)⟩
    have : ((W.setCell ⟨w.heap.size, 0, none⟩ (.bool false)).putObj W0.heap.size (.deferred none)).heap[w.heap.size]? = _ := (World.putObj_heap_other (by omega)).trans hcs
    simp [World.cell?, this]
  case stop =>
    rintro c pre W hp ⟨rfl, hne, hc, he, hbw⟩ hD
    have hres : restB r out = true := by
      obtain ⟨t, ht⟩ := hp
      rw [restB, ← ht]
      cases pre with
      | nil => exact absurd rfl hne
      | cons x xs => rfl
    gi_wp2
    have hg : Grown (fun k => k = W0.heap.size) W (W.putObj W0.heap.size (.deferred none)) := (Grown.refl (fun k => k = W0.heap.size) W).putObj (l := W0.heap.size) (.inl rfl) _
    refine ⟨by simp, .inl ⟨_, _, rfl, run_takeDeferred hD, ?_⟩⟩
    refine ⟨_, results_one Tryz.results100 Tryz.underlying4 rfl _ _ ⟨w.heap.size, 0, none⟩ (.bool true) (by simp) ?_, by rw [hres], hbw.grown hg (by omega) (by have := HBW.out.lt; omega) (fun k hk => by omega), he.of_grown hg (fun k hk hk2 => by omega)⟩
    have : (W.putObj W0.heap.size (.deferred none)).heap[w.heap.size]? = _ := (World.putObj_heap_other (by omega)).trans hc
    simp [World.cell?, this]
end Go.Proofs.YtpgnplmjfhdncaaGreat
/- The first plan. -/
namespace Go.Proofs.YtpgnplmjfhdncaaGreat
open Go.RowKit
attribute [local go_sem] Oper.semAt_some
set_option linter.unusedVariables false
/-- Two cells are stored. -/
theorem set2 {W : World} {b1 b2 t1 t2 : Nat} {u1 u2 : Value} (h1 : W.heap[b1]? = some (.cells #[u1] t1 (0, 0))) (h2 : W.heap[b2]? = some (.cells #[u2] t2 (0, 0))) (hne : b1 ≠ b2) (v1 v2 : Value) :
    ((W.setCell ⟨b1, 0, none⟩ v1).setCell ⟨b2, 0, none⟩ v2).heap[b1]? = some (.cells #[v1] t1 (0, 0)) ∧ ((W.setCell ⟨b1, 0, none⟩ v1).setCell ⟨b2, 0, none⟩ v2).heap[b2]? = some (.cells #[v2] t2 (0, 0)) ∧ Grown (fun k => k = b1 ∨ k = b2) W ((W.setCell ⟨b1, 0, none⟩ v1).setCell ⟨b2, 0, none⟩ v2) := by
  have e1 : (W.setCell ⟨b1, 0, none⟩ v1).heap[b1]? = some (.cells #[v1] t1 (0, 0)) := by rw [heap_setCell_same _ _ _ _ _ _ h1]; rfl
  have e2 : (W.setCell ⟨b1, 0, none⟩ v1).heap[b2]? = some (.cells #[u2] t2 (0, 0)) := (Below.heap_setCell _ _ _ _ (by simp; omega)).trans h2
  refine ⟨(Below.heap_setCell _ _ _ _ (by simp; omega)).trans e1, by rw [heap_setCell_same _ _ _ _ _ _ e2]; rfl, ?_⟩
  exact ((Grown.refl (fun k => k = b1 ∨ k = b2) W).setCell (p := ⟨b1, 0, none⟩) (.inl (.inl rfl)) _).setCell (p := ⟨b2, 0, none⟩) (.inl (.inr rfl)) _
theorem IntsAt.gr {T : Nat → Prop} {w W : World} {a : Option Addr} {xs : List Int} (h : IntsAt w w.heap.size a xs) (hg : Grown T w W) (hb : ∀ b o, a = some ⟨b, o, none⟩ → ¬ T b) : IntsAt W W.heap.size a xs := by
  rcases h with h | ⟨b, o, e, hlt, hc⟩
  · exact .inl h
  · exact .inr ⟨b, o, e, Nat.lt_of_lt_of_le hlt hg.size, fun j hj => (hg.cell hlt (hb b o e)).trans (hc j hj)⟩
theorem cell_one {W : World} {b t : Nat} {u : Value} (h : W.heap[b]? = some (.cells #[u] t (0, 0))) : W.cell? ⟨b, 0, none⟩ = some u := by simp [World.cell?, h]
set_option maxRecDepth 100000 in
set_option maxHeartbeats 8000000 in
theorem plan_c (r : Rm) (q : RA) (w : World) (hq : RoomAt w w.heap.size r q) (he : roomErr r = 0) :
    Calls Tryz.prog 33 #[roomV r q] w fun e w' => Below w.heap.size w w' ∧ ((plansL r [] = [] ∧ e = .returned (.tuple #[.slice none 0 0, .int .i64 10])) ∨ ∃ x xs A K, plansL r [] = x :: xs ∧ e = .returned (.tuple #[.slice A x.length K, .int .i64 0]) ∧ IntsAt w' w'.heap.size A x) := by
  have HQ := Lib.hid hq
  have HE := Lib.hid he
  have HO := Lib.hid (room_ok he)
  obtain ⟨w0, hw0⟩ : ∃ w0, ((w.alloc (.cells (roomCs r q) 44)).alloc (.cells #[.slice none 0 0] 22)).alloc (.cells #[.int .i64 0] 34) = w0 := ⟨_, rfl⟩
  have HB0 : Hid (Below w.heap.size w w0) := by rw [← hw0]; exact bl_al (bl_al (bl_al (Below.refl _ _) _) _) _
  have HW0 := Lib.hid hw0
  clear hq he hw0
  refine (callsIn_wide (n := 0)).1 (callsIn_of_wp_marks Tryz.func33 rfl trivial ?_ rfl)
  simp only [Tryz.ntmps33, List.size_toArray, List.length_cons, List.length_nil, Nat.reduceAdd, Nat.reduceSub, Array.replicate_succ, Array.replicate_zero, List.push_toArray, List.append_toArray, List.nil_append, List.cons_append]
  gi_wp2_with (first | (refine ⟨trivial, rfl, ?_⟩; gi_at_call 89; rw [HW0.out]; refine (callsIn_wide.2 (askedR_ok r q w0 (HQ.out.up HB0.out) HO.out.cop.small HE.out)).mono ?_; rintro e w1 ⟨m, rfl, hm, hmp, hcl, hb⟩; have HB1 := Lib.hid (bl_tr HB0.out hb); have h1 : w1.heap[w.heap.size + 1]? = some (.cells #[.slice none 0 0] 22 (0, 0)) := (hb.block _ (by rw [← HW0.out]; simp)).trans (by rw [← HW0.out]; exact heap_al (by have := World.alloc_heap_new (w.alloc (.cells (roomCs r q) 44)) (.cells #[.slice none 0 0] 22); rwa [World.size_alloc] at this) _); have h2 : w1.heap[w.heap.size + 1 + 1]? = some (.cells #[.int .i64 0] 34 (0, 0)) := (hb.block _ (by rw [← HW0.out]; simp)).trans (by rw [← HW0.out]; have := World.alloc_heap_new ((w.alloc (.cells (roomCs r q) 44)).alloc (.cells #[.slice none 0 0] 22)) (.cells #[.int .i64 0] 34); rwa [World.size_alloc, World.size_alloc] at this); have H1 := Lib.hid h1; have H2 := Lib.hid h2; have HM : Hid (w.heap.size + 3 ≤ m) := (by rw [← HW0.out] at hm; simp at hm; unfold Hid; omega); have HBW : Hid (BW r q w.heap.size (m + 1) m w1) := BW.new HO.out hmp hcl (HQ.out.below HB1.out) (by have := HM.out; omega); clear hb h1 h2 hm hmp hcl) | (refine ⟨trivial, rfl, ?_⟩; gi_at_call 90; refine (callsIn_wide.2 (plans_c (m + 1) none 0 0 _)).mono ?_; rintro e w2 ⟨rfl, rfl⟩))
  have hs1 : w.heap.size + 3 ≤ w1.heap.size := by have := (Array.getElem?_eq_some_iff.1 H2.out).1; omega
  have hlt := HBW.out.lt
  have hM := HM.out
  obtain ⟨W0, hW0⟩ : ∃ W0, (w1.alloc (.cells #[.pointer (some ⟨m + 1, 0, none⟩)] 113)).alloc (.cells #[.slice none 0 0] 22) = W0 := ⟨_, rfl⟩
  rw [hW0]
  have hb0 : Below w1.heap.size w1 W0 := by rw [← hW0]; exact bl_al (bl_al (Below.refl _ _) _) _
  have HB0' := Lib.hid hb0
  have HS0 : Hid (W0.heap.size = w1.heap.size + 2) := by rw [← hW0]; simp [Hid]
  have HPW : Hid (Box W0 w1.heap.size #[.pointer (some ⟨m + 1, 0, none⟩)]) := by rw [← hW0]; exact (Box.new _ _ _ _).al (by simp) _
  have HPO : Hid (Box W0 (w1.heap.size + 1) #[.slice none 0 0]) := by rw [← hW0]; exact Box.new' _ _ _ _ (by simp)
  have HBA : Hid (Below w.heap.size w W0) := bl_tr HB1.out hb0
  have H1' : Hid (W0.heap[w.heap.size + 1]? = some (.cells #[.slice none 0 0] 22 (0, 0))) := (hb0.block _ (by omega)).trans H1.out
  have H2' : Hid (W0.heap[w.heap.size + 1 + 1]? = some (.cells #[.int .i64 0] 34 (0, 0))) := (hb0.block _ (by omega)).trans H2.out
  clear hW0 hb0
  have hs0 := HS0.out
  refine wpIn_rangeE (P := Tryz.prog) (W0.heap.size + 4) (fun k => k = m ∨ (W0.heap.size + 2 ≤ k ∧ k < W0.heap.size + 4)) (Ext [W0.heap.size + 1, w.heap.size + 1, w.heap.size + 1 + 1]) (gf := 133) (lb := #[.pointer (some ⟨w1.heap.size, 0, none⟩), .pointer (some ⟨w1.heap.size + 1, 0, none⟩)]) rfl (enters_of Tryz.func133 (by kernel_rfl) rfl)
    (E := PlanE r q w.heap.size (m + 1) m (W0.heap.size + 2)) (tot := plansL r []) (Fn := fun W' => BW r q w.heap.size (m + 1) m W') ?hFn ?seq ?hT Ext.trans ?hKb ?hps
    (fun pre W => pre = [] ∧ W.heap[w.heap.size + 1]? = some (.cells #[.slice none 0 0] 22 (0, 0)) ∧ W.heap[w.heap.size + 1 + 1]? = some (.cells #[.int .i64 0] 34 (0, 0)) ∧ Below w.heap.size w W)
    (fun c pre W => c = .ret ∧ ∃ x A K, pre = [x] ∧ W.heap[w.heap.size + 1]? = some (.cells #[.slice A x.length K] 22 (0, 0)) ∧ W.heap[w.heap.size + 1 + 1]? = some (.cells #[.int .i64 0] 34 (0, 0)) ∧ Below w.heap.size w W ∧ IntsAt W W.heap.size A x ∧ ∀ b o, A = some ⟨b, o, none⟩ → W0.heap.size + 2 ≤ b) ?hI ?hIx ?h0
    (fun x a' W => ∃ A k, IntsAt W W.heap.size A x ∧ (∀ b o, A = some ⟨b, o, none⟩ → W0.heap.size + 2 ≤ b) ∧ a' = { tmps := #[roomV r q, .pointer (some ⟨w.heap.size, 0, none⟩), .pointer (some ⟨w.heap.size + 1, 0, none⟩), .pointer (some ⟨w.heap.size + 1 + 1, 0, none⟩), .pointer (some ⟨m + 1, 0, none⟩), .int .i64 0, .slice A x.length k, .tuple #[.pointer (some ⟨m + 1, 0, none⟩), .int .i64 0], roomV r q, .tuple #[.pointer (some ⟨m + 1, 0, none⟩), .int .i64 0], .pointer (some ⟨m + 1, 0, none⟩), .int .i64 0, .int .i64 0, .bool false, undef, .pointer (some ⟨m + 1, 0, none⟩), .func (.func 133) #[] #[.pointer (some ⟨w1.heap.size, 0, none⟩), .pointer (some ⟨w1.heap.size + 1, 0, none⟩)], .slice A x.length k, undef], defers := [] }) ?assign ?ha1 ?body ?done ?stop
  case hFn => exact fun A B' h hsz hg => h.grown hg (by omega) (by omega) (fun k hk => by omega)
  case seq =>
    intro rr
    have hsz : ((W0.alloc (.deferred (some []))).alloc (.loop rr)).heap.size = W0.heap.size + 2 := by simp
    have hb : Below W0.heap.size W0 ((W0.alloc (.deferred (some []))).alloc (.loop rr)) := bl_al (bl_al (Below.refl _ _) _) _
    have := plans_it r q w.heap.size (m + 1) m [] none 0 w1.heap.size (w1.heap.size + 1) [W0.heap.size + 1, w.heap.size + 1, w.heap.size + 1 + 1] ((W0.alloc (.deferred (some []))).alloc (.loop rr)) (HBW.out.up (bl_tr HB0'.out hb)) (HPW.out.bl (by simp) hb) (HPO.out.bl (by simp) hb) (.inl rfl)
      ⟨by omega, by omega, by omega, by omega, by omega, fun b o e => (by cases e), fun k hk => by simp at hk; omega, fun b o e => (by cases e)⟩ (by simp)
    rw [hsz] at this
    exact this
  case hT => constructor <;> omega
  case hKb => exact fun W o => (Ext.refl _ W).putObj (.inl (by simp)) o
  case hps => rintro x vs W ⟨⟨A, k, rfl, _⟩, _⟩; rfl
  case hI =>
    rintro pre A B' ⟨h1, h2, h3, h4⟩ hsz hg
    exact ⟨h1, (hg.block _ (by omega) (by omega)).trans h2, (hg.block _ (by omega) (by omega)).trans h3, h4.trans (hg.below (by omega) (fun k hk => by omega))⟩
  case hIx =>
    rintro c pre A B' ⟨h1, x, A', K, h2, h3, h4, h5, h6, h7⟩ hsz hg
    exact ⟨h1, x, A', K, h2, (hg.block _ (by omega) (by omega)).trans h3, (hg.block _ (by omega) (by omega)).trans h4, h5.trans (hg.below (by omega) (fun k hk => by omega)), h6.gr hg (fun b o e => by have := h7 b o e; omega), h7⟩
  case h0 => exact ⟨rfl, H1'.out, H2'.out, HBA.out⟩
  case assign =>
    rintro l pre x vs W K ⟨⟨A, k, rfl, hA, hfar⟩, hbw⟩ h1 h2 h3 hK
    have hk2 := hK _ W (Nat.le_refl _) (fun _ _ => rfl) (Ext.refl _ _) h3 ⟨A, k, hA, hfar, rfl⟩
    clear hK
    simp
    gi_wp2
    exact hk2
  case ha1 =>
    rintro x a' A B' ⟨A', k, h1, h2, h3⟩ hsz hg
    exact ⟨A', k, h1.gr hg (fun b o e => by have := h2 b o e; omega), h2, h3⟩
  case body =>
    rintro l pre x a' W hpx h1 h2 ⟨hp, hc1, hc2, he⟩ ⟨A, k, hA, hfar, rfl⟩
    have k1 := cell_one hc1
    have k2 := cell_one hc2
    have f1 : W.frozen? ⟨w.heap.size + 1, 0, none⟩ = false := by simp [World.frozen?, hc1]
    have f2 : W.frozen? ⟨w.heap.size + 1 + 1, 0, none⟩ = false := by simp [World.frozen?, hc2]
    have HC1 := Lib.hid hc1
    have HC2 := Lib.hid hc2
    have HE := Lib.hid he
    have HA := Lib.hid hA
    have HF := Lib.hid hfar
    clear hc1 hc2 he hA hfar
    gi_wp2
    obtain ⟨g1, g2, g3⟩ := set2 HC1.out HC2.out (by omega) (.slice A x.length k) (.int .i64 0)
    exact ⟨fun kk hk => g3.block _ (by omega) (by omega), rfl, x, A, k, by rw [hp]; rfl, g1, g2, HE.out.trans (g3.below (by omega) (fun k hk => by omega)), HA.out.gr g3 (fun b o e => by have := HF.out b o e; omega), HF.out⟩
  case done =>
    rintro W ⟨h1, h2, h3, h4⟩ hbw hD
    have k1 := cell_one h2
    have k2 := cell_one h3
    have f1 : W.frozen? ⟨w.heap.size + 1, 0, none⟩ = false := by simp [World.frozen?, h2]
    have f2 : W.frozen? ⟨w.heap.size + 1 + 1, 0, none⟩ = false := by simp [World.frozen?, h3]
    have hd0 : W0.heap.size < W.heap.size := (Array.getElem?_eq_some_iff.1 hD).1
    have H2 := Lib.hid h2
    have H3 := Lib.hid h3
    have H4 := Lib.hid h4
    have HD := Lib.hid hD
    have HR := Lib.hid h1
    clear h2 h3 h4 hD hbw h1
    gi_wp2
    obtain ⟨g1, g2, g3⟩ := set2 H2.out H3.out (by omega) (.slice none 0 0) (.int .i64 10)
    have hDs := (g3.block W0.heap.size hd0 (by omega)).trans HD.out
    refine ⟨by simp, .inl ⟨_, _, rfl, run_takeDeferred hDs, ?_⟩⟩
    have hg := (Grown.refl (fun k => k = W0.heap.size) ((W.setCell ⟨w.heap.size + 1, 0, none⟩ (.slice none 0 0)).setCell ⟨w.heap.size + 1 + 1, 0, none⟩ (.int .i64 10))).putObj (l := W0.heap.size) (.inl rfl) (.deferred none)
    have hs3 := g3.size
    refine ⟨_, results_two Tryz.results33 Tryz.underlying22 rfl Tryz.underlying34 rfl _ _ ⟨w.heap.size + 1, 0, none⟩ ⟨w.heap.size + 1 + 1, 0, none⟩ _ _ (by simp) (cell_one ((hg.block _ (by omega) (by omega)).trans g1)) (by simp) (cell_one ((hg.block _ (by omega) (by omega)).trans g2)), (H4.out.trans (g3.below (by omega) (fun k hk => by omega))).trans (hg.below (by omega) (fun k hk => by omega)), .inl ⟨HR.out, rfl⟩⟩
  case stop =>
    rintro c pre W hp ⟨rfl, x, A, K, rfl, h3, h4, h5, h6, h7⟩ hD
    have hd0 : W0.heap.size < W.heap.size := (Array.getElem?_eq_some_iff.1 hD).1
    obtain ⟨t, ht⟩ := hp
    gi_wp2
    have hg : Grown (fun k => k = W0.heap.size) W (W.putObj W0.heap.size (.deferred none)) := (Grown.refl (fun k => k = W0.heap.size) W).putObj (l := W0.heap.size) (.inl rfl) _
    refine ⟨by simp, .inl ⟨_, _, rfl, run_takeDeferred hD, ?_⟩⟩
    refine ⟨_, results_two Tryz.results33 Tryz.underlying22 rfl Tryz.underlying34 rfl _ _ ⟨w.heap.size + 1, 0, none⟩ ⟨w.heap.size + 1 + 1, 0, none⟩ _ _ (by simp) (cell_one ((hg.block _ (by omega) (by omega)).trans h3)) (by simp) (cell_one ((hg.block _ (by omega) (by omega)).trans h4)), h5.trans (hg.below (by omega) (fun k hk => by omega)), .inr ⟨x, t, A, K, by rw [← ht]; rfl, rfl, h6.gr hg (fun b o e => by have := h7 b o e; omega)⟩⟩
end Go.Proofs.YtpgnplmjfhdncaaGreat
/- The hours that a bath has in sure plans. -/
namespace Go.Proofs.YtpgnplmjfhdncaaGreat
open Go.RowKit
attribute [local go_sem] Oper.semAt_some
set_option linter.unusedVariables false
theorem mem_plansF {r : Rm} {out : List Int} : ∀ (d i : Nat) (plan n x : List Int), plan.length = i → (∀ j, i ≤ j → j < i + d → hasI (j : Int) out = false) → x ∈ plansF r out d i plan n → x.length = i + d ∧ (∀ j, j < i → nth x j = nth plan j) ∧ ∀ j, i ≤ j → j < i + d → p1 r.baths j ≤ nth x j ∧ nth x j ≤ p2 r.baths j := by
  intro d
  induction d with
  | zero =>
    intro i plan n x hl ho hx
    simp only [plansF] at hx
    split at hx
    · simp at hx
      subst hx
      exact ⟨by omega, fun _ _ => rfl, fun j h1 h2 => by omega⟩
    · cases hx
  | succ d ih =>
    intro i plan n x hl ho hx
    rw [plansF_in (ho i (Nat.le_refl _) (by omega)), List.mem_flatMap] at hx
    obtain ⟨k, hk, hx⟩ := hx
    rw [List.mem_range] at hk
    unfold plansK at hx
    split at hx
    · obtain ⟨h1, h2, h3⟩ := ih (i + 1) _ _ x (by simp; omega) (fun j a b => ho j (by omega) (by omega)) hx
      refine ⟨by omega, fun j hj => ?_, fun j a b => ?_⟩
      · rw [h2 j (by omega), nth_app_lt (by omega)]
      · rcases Nat.lt_or_ge i j with h | h
        · exact h3 j (by omega) (by omega)
        · obtain rfl : j = i := by omega
          rw [h2 j (by omega)]
          subst hl
          rw [nth_app_eq]
          omega
    · cases hx
theorem mem_plansL {r : Rm} {x : List Int} (hx : x ∈ plansL r []) : x.length = r.baths.length ∧ ∀ j, j < r.baths.length → p1 r.baths j ≤ nth x j ∧ nth x j ≤ p2 r.baths j := by
  obtain ⟨h1, _, h3⟩ := mem_plansF r.baths.length 0 [] [] x rfl (fun _ _ _ => rfl) hx
  exact ⟨by omega, fun j hj => h3 j (Nat.zero_le _) (by omega)⟩
theorem flat_le {α : Type} (f : Nat → List α) (c : Nat) (hf : ∀ k, (f k).length ≤ c) : ∀ n, ((List.range n).flatMap f).length ≤ n * c := by
  intro n
  induction n with
  | zero => simp
  | succ n ih => rw [range_split, List.length_append, Nat.succ_mul]; have := hf n; omega
theorem plansF_len {r : Rm} {out : List Int} (hb : ∀ j, p2 r.baths j - p1 r.baths j + 1 ≤ 5) : ∀ (d i : Nat) (plan n : List Int), (plansF r out d i plan n).length ≤ 5 ^ d := by
  intro d
  induction d with
  | zero => intro i plan n; simp only [plansF]; split <;> simp
  | succ d ih =>
    intro i plan n
    cases h : hasI (i : Int) out with
    | true => rw [plansF_out h]; have := ih (i + 1) plan n; rw [Nat.pow_succ]; omega
    | false =>
      rw [plansF_in h]
      have h1 := flat_le (plansK r out d i plan n) (5 ^ d) (fun k => by unfold plansK; split; exact ih _ _ _; simp) (p2 r.baths i - p1 r.baths i + 1).toNat
      have h2 : (p2 r.baths i - p1 r.baths i + 1).toNat * 5 ^ d ≤ 5 * 5 ^ d := Nat.mul_le_mul_right _ (by have := hb i; omega)
      rw [Nat.pow_succ, Nat.mul_comm]
      omega
theorem plansL_len {r : Rm} (ho : RoomOk r) (out : List Int) : (plansL r out).length ≤ 3125 := by
  have hl4 := ho.cop.l4
  have h1 := plansF_len (r := r) (out := out) (fun j => by
    rcases Nat.lt_or_ge j r.baths.length with hj | hj
    · have := ho.bs j hj; omega
    · have e1 : p1 r.baths j = 0 := by simp [p1, hj]
      have e2 : p2 r.baths j = 0 := by simp [p2, hj]
      omega) r.baths.length 0 [] []
  have h2 : 5 ^ r.baths.length ≤ 5 ^ 5 := Nat.pow_le_pow_right (by omega) ho.n5
  unfold plansL
  omega
/-- How many plans have a bath in an hour. -/
def hadI (plans : List (List Int)) (b h : Nat) : Int := ((plans.filter fun x => nth x b == (h : Int)).length : Int)
def hadL (plans : List (List Int)) (b : Nat) : List Int := rowI (hadI plans b) 5
theorem hadI_le (plans : List (List Int)) (b h : Nat) : 0 ≤ hadI plans b h ∧ hadI plans b h ≤ plans.length := by
  have := List.length_filter_le (fun x => nth x b == (h : Int)) plans
  unfold hadI
  omega
theorem hadL_put (plans : List (List Int)) (b hh : Nat) (h5 : hh < 5) (x : List Int) (hx : nth x b = (hh : Int)) : (nvs (hadL plans b)).setIfInBounds hh (.int .i64 (hadI plans b hh + 1)) = nvs (hadL (plans ++ [x]) b) := by
  rw [nvs_set _ (by rw [hadL, rowI_len]) hh h5]
  refine congrArg nvs (ext_nth (by simp [hadL, rowI_len]) (fun i hi => ?_))
  have hi5 : i < 5 := by simpa [hadL, rowI_len] using hi
  rw [nth_set _ _ _ _ (by rw [hadL, rowI_len]; exact h5)]
  have e : hadI (plans ++ [x]) b i = hadI plans b i + if i = hh then 1 else 0 := by
    unfold hadI
    rw [List.filter_append, List.length_append]
    by_cases hih : i = hh
    · subst hih; simp [hx]
    · have : ((hh : Int) == (i : Int)) = false := by simp; omega
      simp [hx, this, hih]
  have a1 : nth (hadL plans b) i = hadI plans b i := by rw [hadL, nth_rowI _ hi5]
  have a2 : nth (hadL (plans ++ [x]) b) i = hadI (plans ++ [x]) b i := by rw [hadL, nth_rowI _ hi5]
  rw [a2, e]
  by_cases hih : i = hh
  · subst hih; simp
  · rw [if_neg hih, if_neg hih, a1]; omega
/-- All hours of a bath in plans. -/
def hoursL (r : Rm) (plans : List (List Int)) (b : Nat) : Nat → List Int
  | 0 => []
  | k + 1 => hoursL r plans b k ++ if 0 < hadI plans b (p1 r.baths b + (k : Int)).toNat then [p1 r.baths b + (k : Int)] else []
theorem hoursL_len (r : Rm) (plans : List (List Int)) (b : Nat) : ∀ k, (hoursL r plans b k).length ≤ k := by
  intro k
  induction k with
  | zero => simp [hoursL]
  | succ k ih => simp only [hoursL, List.length_append]; split <;> simp <;> omega
set_option maxRecDepth 100000 in
set_option maxHeartbeats 8000000 in
theorem hours_y (r : Rm) (q : RA) (b : Nat) (w : World) (hq : RoomAt w w.heap.size r q) (he : roomErr r = 0) (hb : b < r.baths.length) :
    Calls Tryz.prog 34 #[roomV r q, .int .i64 (b : Int)] w fun e w' => ∃ A K, e = .returned (.tuple #[.slice A (hoursL r (plansL r []) b (p2 r.baths b - p1 r.baths b + 1).toNat).length K, .int .i64 0]) ∧ IntsAt w' w'.heap.size A (hoursL r (plansL r []) b (p2 r.baths b - p1 r.baths b + 1).toNat) ∧ Below w.heap.size w w' := by
  have HQ := Lib.hid hq
  have HE := Lib.hid he
  have HO := Lib.hid (room_ok he)
  have HWI : Hid (within (b : Int) 0 ((r.baths.length : Int) - 1) = true) := by unfold Hid; rw [within_iff]; omega
  have hn5 := HO.out.n5
  obtain ⟨w0, hw0⟩ : ∃ w0, (w.alloc (.cells (roomCs r q) 44)).alloc (.cells #[.int .i64 (b : Int)] 3) = w0 := ⟨_, rfl⟩
  have HB0 : Hid (Below w.heap.size w w0) := by rw [← hw0]; exact bl_al (bl_al (Below.refl _ _) _) _
  have HW0 := Lib.hid hw0
  clear hq he hw0
  refine (callsIn_wide (n := 0)).1 (callsIn_of_wp_marks Tryz.func34 rfl trivial ?_ rfl)
  simp only [Tryz.ntmps34, List.size_toArray, List.length_cons, List.length_nil, Nat.reduceAdd, Nat.reduceSub, Array.replicate_succ, Array.replicate_zero, List.push_toArray, List.append_toArray, List.nil_append, List.cons_append]
  gi_wp2_with (first | (refine ⟨trivial, rfl, ?_⟩; gi_at_call 89; rw [HW0.out]; refine (callsIn_wide.2 (askedR_ok r q w0 (HQ.out.up HB0.out) HO.out.cop.small HE.out)).mono ?_; rintro e w1 ⟨m, rfl, hm, hmp, hcl, hbl⟩; have HB1 := Lib.hid (bl_tr HB0.out hbl); have h1 : w1.heap[w.heap.size + 1]? = some (.cells #[.int .i64 (b : Int)] 3 (0, 0)) := (hbl.block _ (by rw [← HW0.out]; simp)).trans (by rw [← HW0.out]; have := World.alloc_heap_new (w.alloc (.cells (roomCs r q) 44)) (.cells #[.int .i64 (b : Int)] 3); rwa [World.size_alloc] at this); have h2 : Box w1 w.heap.size (roomCs r q) := (Box.bl (by rw [← HW0.out]; exact (Box.new w (roomCs r q) 44 (0, 0)).al (by simp) _) (by simp) hbl); have H1 := Lib.hid h1; have H2 := Lib.hid h2; have cb : w1.cell? ⟨w.heap.size + 1, 0, none⟩ = some (.int .i64 (b : Int)) := cell_one h1; have cr : w1.cell? ⟨w.heap.size, 13, none⟩ = some (.slice q.a5 r.baths.length q.c5) := h2 13; have HM : Hid (w.heap.size + 2 ≤ m) := (by rw [← HW0.out] at hm; simp at hm; unfold Hid; omega); have HBW : Hid (BW r q w.heap.size (m + 1) m w1) := BW.new HO.out hmp hcl (HQ.out.below HB1.out) (by have := HM.out; omega); clear hbl hm hmp hcl h1 h2) | (refine ⟨trivial, rfl, ?_⟩; gi_at_call 87; refine (callsIn_wide.2 (within9_c (b : Int) 0 ((r.baths.length : Int) - 1) _)).mono ?_; rw [HWI.out]; rintro e w2 ⟨rfl, rfl⟩) | (refine ⟨trivial, rfl, ?_⟩; gi_at_call 90; refine (callsIn_wide.2 (plans_c (m + 1) none 0 0 _)).mono ?_; rintro e w2 ⟨rfl, rfl⟩))
  have hs1 : w.heap.size + 2 ≤ w1.heap.size := by have := (Array.getElem?_eq_some_iff.1 H1.out).1; omega
  have hlt := HBW.out.lt
  have hM := HM.out
  have hbs := HO.out.bs b hb
  have hl4 := HO.out.cop.l4
  obtain ⟨bB, ob, ha5, hbB, hbat0⟩ := HQ.out.baths.at_ (by omega)
  have HA5 := Lib.hid ha5
  have HBAT := Lib.hid (hbat0 b hb)
  clear ha5 hbat0
  obtain ⟨W0, hW0⟩ : ∃ W0, ((((w1.alloc (.cells #[.func (.func 91) #[] #[]] 132)).alloc (.cells #[.func (.func 92) #[] #[]] 132)).alloc (.cells #[.int .i64 0, .int .i64 0, .int .i64 0, .int .i64 0, .int .i64 0] 115)).alloc (.cells #[.pointer (some ⟨m + 1, 0, none⟩)] 113)).alloc (.cells #[.slice none 0 0] 22) = W0 := ⟨_, rfl⟩
  rw [hW0]
  have hb0 : Below w1.heap.size w1 W0 := by rw [← hW0]; exact bl_al (bl_al (bl_al (bl_al (bl_al (Below.refl _ _) _) _) _) _) _
  have HB0' := Lib.hid hb0
  have HS0 : Hid (W0.heap.size = w1.heap.size + 5) := by rw [← hW0]; simp [Hid]
  have HF1 : Hid (W0.heap[w1.heap.size]? = some (.cells #[.func (.func 91) #[] #[]] 132 (0, 0))) := by rw [← hW0]; exact heap_al (heap_al (heap_al (heap_al (World.alloc_heap_new _ _) _) _) _) _
  have HF2 : Hid (W0.heap[w1.heap.size + 1]? = some (.cells #[.func (.func 92) #[] #[]] 132 (0, 0))) := by rw [← hW0]; exact heap_al (heap_al (heap_al (heap_alloc2_new _ _ _) _) _) _
  have HHD : Hid (W0.heap[w1.heap.size + 1 + 1]? = some (.cells (nvs (hadL [] b)) 115 (0, 0))) := by rw [← hW0]; exact heap_al (heap_al (by have := World.alloc_heap_new ((w1.alloc (.cells #[.func (.func 91) #[] #[]] 132)).alloc (.cells #[.func (.func 92) #[] #[]] 132)) (.cells #[.int .i64 0, .int .i64 0, .int .i64 0, .int .i64 0, .int .i64 0] 115); rw [World.size_alloc, World.size_alloc] at this; exact this) _) _
  have HPW : Hid (Box W0 (w1.heap.size + 1 + 1 + 1) #[.pointer (some ⟨m + 1, 0, none⟩)]) := by rw [← hW0]; exact (Box.new' _ _ _ _ (by simp)).al (by simp) _
  have HPO : Hid (Box W0 (w1.heap.size + 1 + 1 + 1 + 1) #[.slice none 0 0]) := by rw [← hW0]; exact Box.new' _ _ _ _ (by simp)
  have HBA : Hid (Below w.heap.size w W0) := bl_tr HB1.out hb0
  have H1' : Hid (W0.heap[w.heap.size + 1]? = some (.cells #[.int .i64 (b : Int)] 3 (0, 0))) := (hb0.block _ (by omega)).trans H1.out
  have H2' : Hid (Box W0 w.heap.size (roomCs r q)) := H2.out.bl (by simp [roomCs]) hb0
  clear hW0 hb0 cb cr
  have hs0 := HS0.out
  refine wpIn_rangeE (P := Tryz.prog) (W0.heap.size + 4) (fun k => k = m ∨ (W0.heap.size + 2 ≤ k ∧ k < W0.heap.size + 4)) (Ext [W0.heap.size + 1, w1.heap.size + 1 + 1]) (gf := 133) (lb := #[.pointer (some ⟨w1.heap.size + 1 + 1 + 1, 0, none⟩), .pointer (some ⟨w1.heap.size + 1 + 1 + 1 + 1, 0, none⟩)]) rfl (enters_of Tryz.func133 (by kernel_rfl) rfl)
    (E := PlanE r q w.heap.size (m + 1) m (W0.heap.size + 2)) (tot := plansL r []) (Fn := fun W' => BW r q w.heap.size (m + 1) m W') ?hFn ?seq ?hT Ext.trans ?hKb ?hps
    (fun pre W => W.heap[w1.heap.size]? = some (.cells #[.func (.func 91) #[] #[]] 132 (0, 0)) ∧ W.heap[w1.heap.size + 1]? = some (.cells #[.func (.func 92) #[] #[]] 132 (0, 0)) ∧ W.heap[w1.heap.size + 1 + 1]? = some (.cells (nvs (hadL pre b)) 115 (0, 0)) ∧ W.heap[w.heap.size + 1]? = some (.cells #[.int .i64 (b : Int)] 3 (0, 0)) ∧ Box W w.heap.size (roomCs r q) ∧ Below w.heap.size w W)
    (fun c pre W => False) ?hI ?hIx ?h0
    (fun x a' W => ∃ A k, IntsAt W W.heap.size A x ∧ (∀ b o, A = some ⟨b, o, none⟩ → W0.heap.size + 2 ≤ b) ∧ a' = { tmps := #[roomV r q, .int .i64 (b : Int), .pointer (some ⟨w.heap.size, 0, none⟩), .pointer (some ⟨w.heap.size + 1, 0, none⟩), .slice none 0 0, .int .i64 0, .pointer (some ⟨m + 1, 0, none⟩), .int .i64 0, .pointer (some ⟨w1.heap.size, 0, none⟩), .pointer (some ⟨w1.heap.size + 1, 0, none⟩), .pointer (some ⟨w1.heap.size + 1 + 1, 0, none⟩), .slice A x.length k, undef, undef, .tuple #[.pointer (some ⟨m + 1, 0, none⟩), .int .i64 0], roomV r q, .tuple #[.pointer (some ⟨m + 1, 0, none⟩), .int .i64 0], .pointer (some ⟨m + 1, 0, none⟩), .int .i64 0, .int .i64 0, .bool false, undef, .int .i64 (b : Int), .pointer (some ⟨w.heap.size, 13, none⟩), .slice q.a5 r.baths.length q.c5, .int .i64 (r.baths.length : Int), .int .i64 ((r.baths.length : Int) - 1), .bool true, .bool false, .agg #[.func (.func 91) #[] #[]], .agg #[.func (.func 92) #[] #[]], .pointer (some ⟨m + 1, 0, none⟩), .func (.func 133) #[] #[.pointer (some ⟨w1.heap.size + 1 + 1 + 1, 0, none⟩), .pointer (some ⟨w1.heap.size + 1 + 1 + 1 + 1, 0, none⟩)], .slice A x.length k, undef, undef, undef, undef, undef, undef, undef, undef, undef, undef, undef, undef, undef, undef, undef, undef, undef, undef, undef, undef, undef, undef, undef, undef, undef, undef, undef, undef, undef, undef, undef, undef, undef, undef, undef, undef, undef], defers := [] }) ?assign ?ha1 ?body ?done ?stop
  case hFn => exact fun A B' h hsz hg => h.grown hg (by omega) (by omega) (fun k hk => by omega)
  case seq =>
    intro rr
    have hsz : ((W0.alloc (.deferred (some []))).alloc (.loop rr)).heap.size = W0.heap.size + 2 := by simp
    have hb : Below W0.heap.size W0 ((W0.alloc (.deferred (some []))).alloc (.loop rr)) := bl_al (bl_al (Below.refl _ _) _) _
    have := plans_it r q w.heap.size (m + 1) m [] none 0 (w1.heap.size + 1 + 1 + 1) (w1.heap.size + 1 + 1 + 1 + 1) [W0.heap.size + 1, w1.heap.size + 1 + 1] ((W0.alloc (.deferred (some []))).alloc (.loop rr)) (HBW.out.up (bl_tr HB0'.out hb)) (HPW.out.bl (by simp) hb) (HPO.out.bl (by simp) hb) (.inl rfl)
      ⟨by omega, by omega, by omega, by omega, by omega, fun b o e => (by cases e), fun k hk => by simp at hk; omega, fun b o e => (by cases e)⟩ (by simp)
    rw [hsz] at this
    exact this
  case hT => constructor <;> omega
  case hKb => exact fun W o => (Ext.refl _ W).putObj (.inl (by simp)) o
  case hps => rintro x vs W ⟨⟨A, k, rfl, _⟩, _⟩; rfl
  case hI =>
    rintro pre A B' ⟨h1, h2, h3, h4, h5, h6⟩ hsz hg
    exact ⟨(hg.block _ (by omega) (by omega)).trans h1, (hg.block _ (by omega) (by omega)).trans h2, (hg.block _ (by omega) (by omega)).trans h3, (hg.block _ (by omega) (by omega)).trans h4, hg.box h5 (by omega) (by omega), h6.trans (hg.below (by omega) (fun k hk => by omega))⟩
  case hIx => exact fun _ _ _ _ h _ _ => h
  case h0 => exact ⟨HF1.out, HF2.out, HHD.out, H1'.out, H2'.out, HBA.out⟩
  case assign =>
    rintro l pre x vs W K ⟨⟨A, k, rfl, hA, hfar⟩, hbw⟩ h1 h2 h3 hK
    have hk2 := hK _ W (Nat.le_refl _) (fun _ _ => rfl) (Ext.refl _ _) h3 ⟨A, k, hA, hfar, rfl⟩
    clear hK
    simp
    gi_wp2
    exact hk2
  case ha1 =>
    rintro x a' A B' ⟨A', k, h1, h2, h3⟩ hsz hg
    exact ⟨A', k, h1.gr hg (fun b o e => by have := h2 b o e; omega), h2, h3⟩
  case body =>
    rintro l pre x a' W hpx h1 h2 ⟨hf1, hf2, hhd, hc1, hrm, he⟩ ⟨A, k, hA, hfar, rfl⟩
    obtain ⟨hxl, hxb⟩ := mem_plansL (hpx.subset (by simp) : x ∈ plansL r [])
    have hxbb := hxb b hb
    obtain ⟨hh, hhx⟩ : ∃ hh : Nat, nth x b = (hh : Int) := ⟨(nth x b).toNat, by omega⟩
    have hh5 : hh < 5 := by omega
    have hh51 : (hh : Int) < 5 := by omega
    obtain ⟨bA, oA, rfl, hbA, hcA⟩ := hA.at_ (by omega)
    have hcx := hcA b (by omega)
    rw [hhx] at hcx
    have k1 := cell_one hc1
    have hbx1 : (b : Int) < (x.length : Int) := by omega
    have chd : W.cell? ⟨w1.heap.size + 1 + 1, hh, none⟩ = some (.int .i64 (hadI pre b hh)) := by
      simp only [World.cell?, hhd]
      have := nvs_at (hadL pre b) hh hh5
      rw [hadL, nth_rowI _ hh5] at this
      exact this
    have fhd : W.frozen? ⟨w1.heap.size + 1 + 1, hh, none⟩ = false := by simp [World.frozen?, hhd]
    have hwr := hadI_le pre b hh
    have hpl := hpx.length_le
    have htl := plansL_len HO.out []
    rw [List.length_append, List.length_singleton] at hpl
    have HHX := Lib.hid hhx
    have HF1' := Lib.hid hf1
    have HF2' := Lib.hid hf2
    have HHD' := Lib.hid hhd
    have HC1 := Lib.hid hc1
    have HRM := Lib.hid hrm
    have HE' := Lib.hid he
    clear hf1 hf2 hhd hc1 hrm he hxb hcA hpx hA hfar hhx hxbb
    gi_wp2
    have hg : Grown (fun k => k = w1.heap.size + 1 + 1) W (W.setCell ⟨w1.heap.size + 1 + 1, hh, none⟩ (.int .i64 (hadI pre b hh + 1))) := (Grown.refl (fun k => k = w1.heap.size + 1 + 1) W).setCell (p := ⟨w1.heap.size + 1 + 1, hh, none⟩) (.inl rfl) _
    refine ⟨fun kk hk => hg.block _ (by omega) (by omega), ⟨hg.os, hg.tape, hg.output, hg.size, fun k hk hn => hg.block k hk (fun e => hn (by simp [e]))⟩, (hg.block _ (by omega) (by omega)).trans HF1'.out, (hg.block _ (by omega) (by omega)).trans HF2'.out, ?_, (hg.block _ (by omega) (by omega)).trans HC1.out, hg.box HRM.out (by omega) (by omega), HE'.out.trans (hg.below (by omega) (fun k hk => by omega))⟩
    rw [heap_setCell_same _ _ _ _ _ _ HHD'.out, hadL_put pre b hh hh5 x HHX.out]
  case stop => exact fun _ _ _ _ h => h.elim
  case done =>
    rintro W ⟨hf1, hf2, hhd, hc1, hrm, he⟩ hbw hD
    rename_i Q' K hK
    show K _ _
    refine hK _ _ (wpIn_wide.2 ?_)
    have hd0 : W0.heap.size < W.heap.size := (Array.getElem?_eq_some_iff.1 hD).1
    have k1 := cell_one hf1
    have kb := cell_one hc1
    have kr : W.cell? ⟨w.heap.size, 13, none⟩ = some (.slice (some ⟨bB, ob, none⟩) r.baths.length q.c5) := by rw [hrm 13, ← HA5.out]; rfl
    have e1 : W.cell? ⟨bB, ob + b * 2, none⟩ = some (.int .i64 (p1 r.baths b)) := cell_later he HBAT.out.1
    have e2 : W.cell? ⟨bB, ob + b * 2 + 1, none⟩ = some (.int .i64 (p2 r.baths b)) := cell_later he HBAT.out.2
    have k2 := cell_one hf2
    have KF1 := Lib.hid k1
    have KF2 := Lib.hid k2
    have KB := Lib.hid kb
    have KR := Lib.hid kr
    have E1 := Lib.hid e1
    have E2 := Lib.hid e2
    have HHD' := Lib.hid hhd
    have HE' := Lib.hid he
    have HD := Lib.hid hD
    have hbn : (b : Int) < (r.baths.length : Int) := by omega
    have HS0' := Lib.hid hs0
    clear hf1 hf2 hhd hc1 hrm he hbw hD hs0
    go_wp2
    refine wp_region_plus (by kernel_rfl) ?_
    repeat (go_big_quiet_step ((go_at_call 91; exact Calls.pl (first_c _ _ _))))
    refine wpQuiet_nil ?_
    rintro _ ⟨d, rfl⟩
    clear k1 k2 kb kr e1 e2
    have HBD : Hid (Below W.heap.size W (plus W d)) := bl_pl (Below.refl _ _) d
    go_wp2
    go_loopw [12, 13] (fun o h wr => ∃ (kk hh : Nat) (A : Option Addr) (K : Nat), (kk : Int) ≤ p2 r.baths b - p1 r.baths b + 1 ∧ p1 r.baths b + (kk : Int) = (hh : Int) ∧ h = .int .i64 (hh : Int) ∧ o = .slice A (hoursL r (plansL r []) b kk).length K ∧ wr.ownsRow W.heap.size 3 1 (.slice A (hoursL r (plansL r []) b kk).length K) (hoursL r (plansL r []) b kk).length (ints (hoursL r (plansL r []) b kk)) ∧ Below W.heap.size W wr) (fun _ h _ => (p2 r.baths b + 1 - intOf h).toNat)
    case atStart => exact ⟨0, (p1 r.baths b).toNat, none, 0, by omega, by omega, by congr 1; omega, rfl, World.ownsRow_nil _ _ _ _, HBD.out⟩
    case round =>
      obtain ⟨kk, hh, A, K, hkk, hkh, rfl, rfl, hown, hbl⟩ := hrel
      have HOWN := Lib.hid hown
      have HBL := Lib.hid hbl
      have k2 := cell_later hbl KF2.out
      have kb := cell_later hbl KB.out
      have kr := cell_later hbl KR.out
      have e1 := cell_later hbl E1.out
      have e2 := cell_later hbl E2.out
      have HHW : Hid (wr.heap[w1.heap.size + 1 + 1]? = some (.cells (nvs (hadL (plansL r []) b)) 115 (0, 0))) := (hbl.block _ (Array.getElem?_eq_some_iff.1 HHD'.out).1).trans HHD'.out
      clear hown hbl
      by_cases hle : (hh : Int) ≤ p2 r.baths b
      · go_wp2
        refine wp_region_plus (by kernel_rfl) ?_
        repeat (go_big_quiet_step ((go_at_call 92; exact Calls.pl (last_c _ _ _))))
        refine wpQuiet_nil ?_
        rintro wd ⟨d2, hd2⟩
        have hbd : Below wr.heap.size wr wd := by rw [hd2]; exact bl_pl (Below.refl _ _) d2
        have HBD2 := Lib.hid hbd
        clear hd2 hbd
        clear k2 kb kr e1 e2
        have hh5 : hh < 5 := by omega
        have hh51 : (hh : Int) < 5 := by omega
        have HHV : Hid (wd.heap[w1.heap.size + 1 + 1]? = some (.cells (nvs (hadL (plansL r []) b)) 115 (0, 0))) := (HBD2.out.block _ (Array.getElem?_eq_some_iff.1 HHW.out).1).trans HHW.out
        have chd : wd.cell? ⟨w1.heap.size + 1 + 1, hh, none⟩ = some (.int .i64 (hadI (plansL r []) b hh)) := by
          simp only [World.cell?, HHV.out]
          have := nvs_at (hadL (plansL r []) b) hh hh5
          rw [hadL, nth_rowI _ hh5] at this
          exact this
        have HKT : Hid ((p1 r.baths b + (kk : Int)).toNat = hh) := by unfold Hid; omega
        have HHK := Lib.hid hkh
        have HBL2 : Hid (Below W.heap.size W wd) := bl_tr HBL.out HBD2.out
        have HLN := hoursL_len r (plansL r []) b kk
        have HOWN2 := Lib.hid (own_below HOWN.out HBD2.out)
        by_cases hpos : 0 < hadI (plansL r []) b hh
        · have HL1 : Hid (hoursL r (plansL r []) b (kk + 1) = hoursL r (plansL r []) b kk ++ [(hh : Int)]) := by
            unfold Hid
            rw [hoursL, HKT.out, if_pos hpos, hkh]
          clear hkh
          go_wp2_with (refine wpList_append_k rfl W.heap.size _ _ 22 3 _ 1 8 rfl Tryz.underlying22 info3 rfl (by decide) (by decide) (.slice A (hoursL r (plansL r []) b kk).length K) (hoursL r (plansL r []) b kk).length _ [.int .i64 (hh : Int)] wd.heap.size rfl rfl (World.alloc_heap_new _ _) rfl (by simp [Value.oneCell']) (HOWN2.out.alloc _) (by have := HBL2.out.size; simp; omega) (by omega) ?_; intro v1 w8 ho8 hg8 hat8; obtain ⟨A5, K5, rfl⟩ := own_shape6 ho8; have HO8 := Lib.hid ho8; have HG8 := Lib.hid hg8; clear ho8 hg8 hat8)
          go_roundw
          case rel =>
            have hln : (hoursL r (plansL r []) b (kk + 1)).length = (hoursL r (plansL r []) b kk).length + 1 := by rw [HL1.out]; simp
            refine ⟨kk + 1, hh + 1, A5, K5, by have := HHK.out; omega, by have := HHK.out; omega, by go_num, by rw [hln], ?_, bl_gr (bl_al HBL2.out _) HG8.out (fun k hk => (HOWN2.out.lt k hk).1)⟩
            rw [hln, HL1.out, ints_snoc]
            exact HO8.out
          case measure => simp [intOf]; omega
        · have HL1 : Hid (hoursL r (plansL r []) b (kk + 1) = hoursL r (plansL r []) b kk) := by
            unfold Hid
            rw [hoursL, HKT.out, if_neg hpos, List.append_nil]
          clear hkh
          go_wp2
          go_roundw
          case rel => exact ⟨kk + 1, hh + 1, A, K, by have := HHK.out; omega, by have := HHK.out; omega, by go_num, by rw [HL1.out], by rw [HL1.out]; exact HOWN2.out, HBL2.out⟩
          case measure => simp [intOf]; omega
      · have hkn : kk = (p2 r.baths b - p1 r.baths b + 1).toNat := by omega
        have HOWN' := HOWN.out
        rw [hkn] at HOWN'
        go_wp2
        refine wp_region_plus (by kernel_rfl) ?_
        repeat (go_big_quiet_step ((go_at_call 92; exact Calls.pl (last_c _ _ _))))
        refine wpQuiet_nil ?_
        rintro _ ⟨d2, rfl⟩
        clear k2 kb kr e1 e2
        go_wp2
        have hDp : (plus wr d2).heap[W0.heap.size]? = some (.deferred (some [])) := (((bl_pl HBL.out d2).block _ hd0)).trans HD.out
        have hg : Grown (fun k => k = W0.heap.size) (plus wr d2) ((plus wr d2).putObj W0.heap.size (.deferred none)) := (Grown.refl (fun k => k = W0.heap.size) _).putObj (l := W0.heap.size) (.inl rfl) _
        refine ⟨by simp, .inl ⟨_, _, rfl, run_takeDeferred hDp, ?_⟩⟩
        have hs0 := HS0'.out
        exact ⟨_, results_tmp2 rfl _ _ _, A, K, rfl, (own_ints' (own_below HOWN' (bl_pl (Below.refl _ _) d2))).gr hg (fun b' o' e' => by
          subst e'
          have := ((own_below HOWN' (bl_pl (Below.refl _ _) d2)).lt b' rfl).1
          omega), ((HE'.out.trans ((bl_pl HBL.out d2).mono HE'.out.size))).trans (hg.below (by have := HE'.out.size; have := (bl_pl HBL.out d2).size; omega) (fun k hk => by omega))⟩
end Go.Proofs.YtpgnplmjfhdncaaGreat
