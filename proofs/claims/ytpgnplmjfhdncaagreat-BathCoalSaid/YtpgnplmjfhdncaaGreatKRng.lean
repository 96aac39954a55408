/- The law of a range over a function whose iterator has cells of its own (T), or changes what the loop's body knows of. -/
import Derived.Test.YtpgnplmjfhdncaaGreatKBase
import Derived.RangeFuncNested
import Derived.RangeFuncBound
import Derived.RangeFuncCalls
import Derived.RangeFuncLeaves
import Derived.OwnWalkIn
import Derived.TacticsInMore
import Derived.LoopIn
namespace Go.Proofs.YtpgnplmjfhdncaaGreat
open Go.RowKit
set_option linter.unusedVariables false
/-- What lay is as it lay, but for T's blocks. -/
structure Grown (T : Nat → Prop) (w w' : World) : Prop where
  os : w'.os = w.os
  tape : w'.tape = w.tape
  output : w'.output = w.output
  size : w.heap.size ≤ w'.heap.size
  block : ∀ k, k < w.heap.size → ¬ T k → w'.heap[k]? = w.heap[k]?
theorem Grown.refl (T : Nat → Prop) (w : World) : Grown T w w := ⟨rfl, rfl, rfl, Nat.le_refl _, fun _ _ _ => rfl⟩
theorem Grown.trans {T : Nat → Prop} {a b c : World} (h : Grown T a b) (k : Grown T b c) : Grown T a c :=
  ⟨k.os.trans h.os, k.tape.trans h.tape, k.output.trans h.output, Nat.le_trans h.size k.size, fun i hi hn => (k.block i (Nat.lt_of_lt_of_le hi h.size) hn).trans (h.block i hi hn)⟩
theorem Grown.mono {T T' : Nat → Prop} {a b : World} (h : Grown T a b) (hT : ∀ k, k < a.heap.size → T k → T' k) : Grown T' a b :=
  ⟨h.os, h.tape, h.output, h.size, fun i hi hn => h.block i hi (fun t => hn (hT i hi t))⟩
theorem Grown.of_below {T : Nat → Prop} {B : Nat} {a b : World} (h : Below B a b) (hs : a.heap.size ≤ b.heap.size) (hT : ∀ k, B ≤ k → k < a.heap.size → T k) : Grown T a b :=
  ⟨h.os, h.tape, h.output, hs, fun i hi hn => by
    by_cases hb : i < B
    · exact h.block i hb
    · exact (hn (hT i (by omega) hi)).elim⟩
theorem Grown.bl {T : Nat → Prop} {a b : World} (h : Below a.heap.size a b) : Grown T a b := ⟨h.os, h.tape, h.output, h.size, fun i hi _ => h.block i hi⟩
theorem Grown.below {T : Nat → Prop} {B : Nat} {a b : World} (h : Grown T a b) (hB : B ≤ a.heap.size) (hT : ∀ k, T k → B ≤ k) : Below B a b :=
  ⟨h.os, h.tape, h.output, h.size, fun i hi => h.block i (by omega) (fun t => by have := hT i t; omega)⟩
theorem Grown.alloc {T : Nat → Prop} {a w : World} (h : Grown T a w) (o : Obj) : Grown T a (w.alloc o) := h.trans (Grown.bl (bl_al (Below.refl _ _) o))
theorem Grown.drew {T : Nat → Prop} {a w : World} (h : Grown T a w) : Grown T a w.drew := h.trans (Grown.bl (bl_dr (Below.refl _ _)))
theorem Grown.setCell {T : Nat → Prop} {a w : World} (h : Grown T a w) {p : Addr} (hp : T p.block ∨ a.heap.size ≤ p.block) (u : Value) : Grown T a (w.setCell p u) :=
  ⟨h.os, h.tape, h.output, by simpa [World.setCell] using h.size, fun k hk hn => (Below.heap_setCell _ _ _ _ (fun e => by rcases hp with hp | hp; exact hn (e ▸ hp); omega)).trans (h.block k hk hn)⟩
theorem Grown.putObj {T : Nat → Prop} {a w : World} (h : Grown T a w) {l : Nat} (hp : T l ∨ a.heap.size ≤ l) (o : Obj) : Grown T a (w.putObj l o) := by
  have hg := grownBy_putObj' w l o
  exact ⟨hg.os.trans h.os, hg.tape.trans h.tape, hg.output.trans h.output, Nat.le_trans h.size hg.size, fun k hk hn => (hg.block k (Nat.lt_of_lt_of_le hk h.size) (fun e => by cases e; rcases hp with hp | hp; exact hn hp; omega)).trans (h.block k hk hn)⟩
theorem Grown.cell {T : Nat → Prop} {w w' : World} (h : Grown T w w') {b o : Nat} (hb : b < w.heap.size) (hn : ¬ T b) : w'.cell? ⟨b, o, none⟩ = w.cell? ⟨b, o, none⟩ := World.cell?_of_block (w := w) (h.block b hb hn)
theorem Grown.box {T : Nat → Prop} {w w' : World} {b : Nat} {cs : Array Value} (h : Grown T w w') (hx : Box w b cs) (hb : b < w.heap.size) (hn : ¬ T b) : Box w' b cs := fun o => (h.cell hb hn).trans (hx o)

/-- What an iterator does: it gives what S says, or up to a 'no more'. T: the blocks that it may change. Kp: what a round keeps. -/
def SeqT {α : Type} (N : Nat) (T : Nat → Prop) (Kp : World → World → Prop) (P : Program) (g : Nat) (lb : Array Value) (encs : α → Array Value) (tot : List α) (W : World) : Prop :=
  ∀ (l : Nat) (J Jx : List α → World → Prop), (∀ pre A B, J pre A → W.heap.size ≤ A.heap.size → Grown T A B → J pre B) →
    (∀ pre x W1, pre ++ [x] <+: tot → J pre W1 → N ≤ W1.heap.size → YieldAt Fence.wide 0 P l (encs x) W1 fun e W' =>
      (e = .returned (.bool true) ∧ J (pre ++ [x]) W' ∧ Kp W1 W') ∨ (e = .returned (.bool false) ∧ Jx (pre ++ [x]) W')) →
    J [] W →
    CallsIn Fence.wide 0 P g (#[.func (.yield l) #[] #[]] ++ lb) W fun e W' => (∃ v, e = .returned v) ∧ (J tot W' ∨ (∃ pre, pre <+: tot ∧ Jx pre W'))

def postT {α : Type} (D : Nat) (Kp : World → World → Prop) (I : List α → World → Prop) (Ix : Code → List α → World → Prop) (xs : List α) (W : World) : Exit → Act → World → Prop
  | .normal, _, W' => (∀ k, k = D ∨ k = D + 1 → W'.heap[k]? = W.heap[k]?) ∧ Kp W W' ∧ I xs W'
  | .ret, _, W' => (∀ k, k = D ∨ k = D + 1 → W'.heap[k]? = W.heap[k]?) ∧ Ix .ret xs W'
  | .exit id, _, W' => (∀ k, k = D ∨ k = D + 1 → W'.heap[k]? = W.heap[k]?) ∧ Ix (.exit id) xs W'
  | .goto _, _, _ => False
  | .panic _, _, _ => False
  | .outgrown, _, _ => False

theorem wpIn_rangeT {P : Program} {α : Type} {g : Operand} {ps : Array Tmp} {assign body : Code} {Q : Exit → Act → World → Prop} {a : Act} {w : World} (N : Nat) (T : Nat → Prop) (Kp : World → World → Prop)
    {gf : Nat} {lb : Array Value} (hg : a.eval g = .func (.func gf) #[] lb) (eg : ∀ args w, (callFunc gf args).run P w = .ok (.enter gf args) w)
    {encs : α → Array Value} {tot : List α}
    (hseq : ∀ r, SeqT N T Kp P gf lb encs tot ((w.alloc (.deferred (some []))).alloc (.loop r)))
    (hT : ¬ T w.heap.size ∧ ¬ T (w.heap.size + 1))
    (hKt : ∀ {A B C : World}, Kp A B → Kp B C → Kp A C) (hKb : ∀ (W : World) (o : Obj), Kp W (W.putObj (w.heap.size + 1) o)) (hps : ∀ x, (encs x).size = ps.size)
    (I : List α → World → Prop) (Ix : Code → List α → World → Prop)
    (hI : ∀ pre A B, I pre A → w.heap.size ≤ A.heap.size → Grown (fun k => T k ∨ k = w.heap.size + 1) A B → I pre B)
    (hIx : ∀ c pre A B, Ix c pre A → w.heap.size ≤ A.heap.size → Grown (fun k => k = w.heap.size + 1) A B → Ix c pre B) (h0 : I [] w)
    (a₁ : α → Act → World → Prop)
    (hassign : ∀ (l : Nat) (pre : List α) (x : α) (W : World) (K : Act → World → Prop), w.heap.size + 2 ≤ W.heap.size → N ≤ W.heap.size → I pre W →
      (∀ a' W', W.heap.size ≤ W'.heap.size → (∀ k, k = w.heap.size ∨ k = w.heap.size + 1 → W'.heap[k]? = W.heap[k]?) → Kp W W' → I pre W' → a₁ x a' W' → K a' W') →
      assign.wpIn (Fence.wide.inRound l) 0 P (Exit.then K (fun _ _ _ => False)) { tmps := (ps.zip (encs x)).foldl (fun t (p, v) => t.setIfInBounds p v) a.tmps, defers := [] } W)
    (ha₁ : ∀ x a' A B, a₁ x a' A → w.heap.size ≤ A.heap.size → Grown (fun k => k = w.heap.size + 1) A B → a₁ x a' B)
    (hbody : ∀ (l : Nat) (pre : List α) (x : α) (a' : Act) (W : World), pre ++ [x] <+: tot → w.heap.size + 2 ≤ W.heap.size → N ≤ W.heap.size → I pre W → a₁ x a' W → body.wpIn (Fence.wide.inRound l) 0 P (postT w.heap.size Kp I Ix (pre ++ [x]) W) a' W)
    (hdone : ∀ (W : World), I tot W → W.heap[w.heap.size]? = some (.deferred (some [])) → Q .normal { a with defers := { target := .collected w.heap.size, args := #[] } :: a.defers } W)
    (hstop : ∀ (c : Code) (pre : List α) (W : World), pre <+: tot → Ix c pre W → W.heap[w.heap.size]? = some (.deferred (some [])) → c.wpIn Fence.wide 0 P Q { a with defers := { target := .collected w.heap.size, args := #[] } :: a.defers } W) :
    (Code.rangeFunc g ps assign body).wpIn Fence.wide 0 P Q a w := by
  refine wpIn_rangeFunc ?_
  intro fn hfn
  obtain ⟨rec, hrec⟩ : ∃ rec : LoopState → Option Code → Loop, rec = fun st pe => { state := st, pending := pe, fn, tmps := a.tmps, params := ps, assign, body, defers := w.heap.size } := ⟨_, rfl⟩
  obtain ⟨W1, hW1⟩ : ∃ W1, (w.alloc (.deferred (some []))).alloc (.loop (rec .ready none)) = W1 := ⟨_, rfl⟩
  have hL1 : W1.heap[w.heap.size + 1]? = some (.loop (rec .ready none)) := by
    rw [← hW1]; have := World.alloc_heap_new (w.alloc (.deferred (some []))) (.loop (rec .ready none)); rwa [World.size_alloc] at this
  have hK1 : W1.heap[w.heap.size]? = some (.deferred (some [])) := by
    rw [← hW1]; exact (Below.heap_alloc _ _ _ (by simp)).trans (World.alloc_heap_new w _)
  have hs1 : W1.heap.size = w.heap.size + 2 := by rw [← hW1]; simp
  have hI1 : I [] W1 := by rw [← hW1]; exact hI _ _ _ h0 (Nat.le_refl _) (Grown.bl (bl_al (bl_al (Below.refl _ _) _) _))
  refine ⟨w.heap.size + 1, [{ target := .collected w.heap.size, args := #[] }], W1, { target := .fn (.func gf) lb, args := #[.func (.yield (w.heap.size + 1)) #[] #[]] }, W1, gf,
    #[.func (.yield (w.heap.size + 1)) #[] #[]] ++ lb, W1, ?_, ?_, ?_, ?_, fun h => by simp [Fence.wide] at h, ?_⟩
  · rw [← hW1, hrec]; exact run_enterLoop_outer _ _ _ _ _
  · simp only [resolve, hg]
    simp [go_sem]
  · intro f' hf'; trivial
  · simp [invoke, go_sem, eg]
  · refine ((by have := hseq (rec .ready none); rw [hW1] at this; exact this : SeqT N T Kp P gf lb encs tot W1) (w.heap.size + 1)
      (fun pre W => I pre W ∧ w.heap.size + 2 ≤ W.heap.size ∧ W.heap[w.heap.size + 1]? = some (.loop (rec .ready none)) ∧ W.heap[w.heap.size]? = some (.deferred (some [])))
      (fun pre W => ∃ c, Ix c pre W ∧ w.heap.size + 2 ≤ W.heap.size ∧ W.heap[w.heap.size + 1]? = some (.loop (rec .done (some c))) ∧ W.heap[w.heap.size]? = some (.deferred (some [])))
      (fun pre A B hs hsz hgr => ⟨hI pre A B hs.1 (by omega) (hgr.mono fun k _ t => .inl t), Nat.le_trans hs.2.1 hgr.size, (hgr.block _ (by omega) hT.2).trans hs.2.2.1, (hgr.block _ (by omega) hT.1).trans hs.2.2.2⟩)
      ?_ ⟨hI1, by omega, hL1, hK1⟩).mono ?_
    · rintro pre x W hpx ⟨hi, hsz, hl, hk⟩ hN
      have hy := run_yield (P := P) (args := encs x) hl (by rw [hrec]; exact hps x)
      rw [hrec] at hy
      refine ⟨fn, _, assign, body, hy, roundIn_of_wpIn hfn (hassign _ pre x W _ hsz hN hi ?_)⟩
      intro a' W' hWW hkk hkp hi' ha'
      have hl' := (hkk _ (.inr rfl)).trans hl
      have hk' := (hkk _ (.inl rfl)).trans hk
      refine ⟨_, run_beginRound hl' (by rw [hrec]), ?_⟩
      have hsz' : w.heap.size + 2 ≤ W'.heap.size := by have := (Array.getElem?_eq_some_iff.1 hl').1; omega
      have hl2 : (W'.putObj (w.heap.size + 1) (.loop { rec .ready none with state := .busy })).heap[w.heap.size + 1]? = some (.loop { rec .ready none with state := .busy }) := World.putObj_heap_same (by omega)
      have hk2 : (W'.putObj (w.heap.size + 1) (.loop { rec .ready none with state := .busy })).heap[w.heap.size]? = some (.deferred (some [])) := (World.putObj_heap_other (by omega)).trans hk'
      have hput : ∀ (X : World) (o : Obj), Grown (fun k => k = w.heap.size + 1) X (X.putObj (w.heap.size + 1) o) := fun X o => (Grown.refl (fun k => k = w.heap.size + 1) X).putObj (l := w.heap.size + 1) (.inl rfl) o
      have hszp : w.heap.size + 2 ≤ (W'.putObj (w.heap.size + 1) (.loop { rec .ready none with state := .busy })).heap.size := Nat.le_trans hsz' (hput W' _).size
      refine wpIn_mono (hbody _ pre x a' _ hpx hszp (Nat.le_trans (Nat.le_trans hN hWW) (hput W' _).size) (hI _ _ _ hi' (by omega) ((hput W' _).mono fun k _ t => .inr t)) (ha₁ _ _ _ _ ha' (by omega) (hput W' _))) ?_
      have fin : ∀ (jump : Option Code) (W3 : World), (∀ k, k = w.heap.size ∨ k = w.heap.size + 1 → W3.heap[k]? = (W'.putObj (w.heap.size + 1) (.loop { rec .ready none with state := .busy })).heap[k]?) →
          (Instr.endRound (w.heap.size + 1) jump).run P W3 = .ok (.bool jump.isNone) (W3.putObj (w.heap.size + 1) (.loop (rec (if jump.isNone then .ready else .done) jump))) ∧
          w.heap.size + 2 ≤ W3.heap.size ∧
          (W3.putObj (w.heap.size + 1) (.loop (rec (if jump.isNone then .ready else .done) jump))).heap[w.heap.size + 1]? = some (.loop (rec (if jump.isNone then .ready else .done) jump)) ∧
          (W3.putObj (w.heap.size + 1) (.loop (rec (if jump.isNone then .ready else .done) jump))).heap[w.heap.size]? = some (.deferred (some [])) := fun jump W3 hk3 => by
        have hl3 := (hk3 _ (.inr rfl)).trans hl2
        have := run_endRound (P := P) jump hl3
        rw [hrec] at this ⊢
        exact ⟨this, by have := (Array.getElem?_eq_some_iff.1 hl3).1; omega, World.putObj_heap_same (Array.getElem?_eq_some_iff.1 hl3).1, (World.putObj_heap_other (by omega)).trans ((hk3 _ (.inl rfl)).trans hk2)⟩
      rintro e a3 W3 hp
      cases e with
      | normal =>
        obtain ⟨hk3, hkp3, hi3⟩ := hp
        obtain ⟨hr, hs3, hl4, hk4⟩ := fin none W3 hk3
        exact ⟨_, _, hr, .inl ⟨rfl, ⟨hI _ _ _ hi3 (by omega) ((hput W3 _).mono fun k _ t => .inr t), Nat.le_trans hs3 (hput W3 _).size, hl4, hk4⟩, hKt (hKt (hKt hkp (hKb _ _)) hkp3) (hKb _ _)⟩⟩
      | ret =>
        obtain ⟨hk3, hi3⟩ := hp
        obtain ⟨hr, hs3, hl4, hk4⟩ := fin (some .ret) W3 hk3
        exact ⟨_, _, hr, .inr ⟨rfl, .ret, hIx _ _ _ _ hi3 (by omega) (hput W3 _), Nat.le_trans hs3 (hput W3 _).size, hl4, hk4⟩⟩
      | exit id =>
        obtain ⟨hk3, hi3⟩ := hp
        obtain ⟨hr, hs3, hl4, hk4⟩ := fin (some (.exit id)) W3 hk3
        exact ⟨_, _, hr, .inr ⟨rfl, .exit id, hIx _ _ _ _ hi3 (by omega) (hput W3 _), Nat.le_trans hs3 (hput W3 _).size, hl4, hk4⟩⟩
      | goto t => exact hp.elim
      | panic ch => exact hp.elim
      | outgrown => exact hp.elim
    · have hput : ∀ (X : World) (o : Obj), Grown (fun k => k = w.heap.size + 1) X (X.putObj (w.heap.size + 1) o) := fun X o => (Grown.refl (fun k => k = w.heap.size + 1) X).putObj (l := w.heap.size + 1) (.inl rfl) o
      rintro e W2 ⟨⟨v, rfl⟩, (⟨hi, hsz, hl, hk⟩ | ⟨pre, hSp, c, hi, hsz, hl, hk⟩)⟩
      · exact ⟨none, _, by have := run_endLoop (P := P) hl (by rw [hrec]; simp); rw [hrec] at this; exact this, hdone _ (hI _ _ _ hi (by omega) ((hput W2 _).mono fun k _ t => .inr t)) ((World.putObj_heap_other (by omega)).trans hk)⟩
      · exact ⟨some c, _, by have := run_endLoop (P := P) hl (by rw [hrec]; simp); rw [hrec] at this; exact this, hstop c pre _ hSp (hIx c _ _ _ hi (by omega) (hput W2 _)) ((World.putObj_heap_other (by omega)).trans hk)⟩
theorem wpIn_rangeB {P : Program} {α : Type} {g : Operand} {ps : Array Tmp} {assign body : Code} {Q : Exit → Act → World → Prop} {a : Act} {w : World} (N : Nat) (T : Nat → Prop) (Kp : World → World → Prop)
    {gf : Nat} {lb : Array Value} (hg : a.eval g = .func (.func gf) #[] lb) (eg : ∀ args w, (callFunc gf args).run P w = .ok (.enter gf args) w)
    {encs : α → Array Value} {tot : List α}
    (hseq : ∀ r, SeqT N T Kp P gf lb encs tot ((w.alloc (.deferred (some []))).alloc (.loop r)))
    (hT : ¬ T w.heap.size ∧ ¬ T (w.heap.size + 1))
    (hKt : ∀ {A B C : World}, Kp A B → Kp B C → Kp A C) (hKb : ∀ (W : World) (o : Obj), Kp W (W.putObj (w.heap.size + 1) o)) (hps : ∀ x, (encs x).size = ps.size)
    (I : List α → World → Prop) (Ix : Code → List α → World → Prop)
    (hI : ∀ pre A B, I pre A → w.heap.size ≤ A.heap.size → Grown (fun k => T k ∨ k = w.heap.size + 1) A B → I pre B)
    (hIx : ∀ c pre A B, Ix c pre A → w.heap.size ≤ A.heap.size → Grown (fun k => k = w.heap.size + 1) A B → Ix c pre B) (h0 : I [] w)
    (p : Tmp) (Pb : α → Nat → World → Prop)
    (hassign : ∀ (l : Nat) (pre : List α) (x : α) (W : World) (K : Act → World → Prop), w.heap.size + 2 ≤ W.heap.size → N ≤ W.heap.size → I pre W →
      (∀ b W', W.heap.size ≤ W'.heap.size → (∀ k, k = w.heap.size ∨ k = w.heap.size + 1 → W'.heap[k]? = W.heap[k]?) → Kp W W' → I pre W' → Pb x b W' → K { tmps := ((ps.zip (encs x)).foldl (fun t (p, v) => t.setIfInBounds p v) a.tmps).setIfInBounds p (.pointer (some ⟨b, 0, none⟩)), defers := [] } W') →
      assign.wpIn (Fence.wide.inRound l) 0 P (Exit.then K (fun _ _ _ => False)) { tmps := (ps.zip (encs x)).foldl (fun t (p, v) => t.setIfInBounds p v) a.tmps, defers := [] } W)
    (ha₁ : ∀ x b A B, Pb x b A → w.heap.size ≤ A.heap.size → Grown (fun k => k = w.heap.size + 1) A B → Pb x b B)
    (hbody : ∀ (l : Nat) (pre : List α) (x : α) (b : Nat) (W : World), pre ++ [x] <+: tot → w.heap.size + 2 ≤ W.heap.size → N ≤ W.heap.size → I pre W → Pb x b W → body.wpIn (Fence.wide.inRound l) 0 P (postT w.heap.size Kp I Ix (pre ++ [x]) W) { tmps := ((ps.zip (encs x)).foldl (fun t (p, v) => t.setIfInBounds p v) a.tmps).setIfInBounds p (.pointer (some ⟨b, 0, none⟩)), defers := [] } W)
    (hdone : ∀ (W : World), I tot W → W.heap[w.heap.size]? = some (.deferred (some [])) → Q .normal { a with defers := { target := .collected w.heap.size, args := #[] } :: a.defers } W)
    (hstop : ∀ (c : Code) (pre : List α) (W : World), pre <+: tot → Ix c pre W → W.heap[w.heap.size]? = some (.deferred (some [])) → c.wpIn Fence.wide 0 P Q { a with defers := { target := .collected w.heap.size, args := #[] } :: a.defers } W) :
    (Code.rangeFunc g ps assign body).wpIn Fence.wide 0 P Q a w :=
  wpIn_rangeT N T Kp hg eg hseq hT hKt hKb hps I Ix hI hIx h0 (fun x a' W => ∃ b, Pb x b W ∧ a' = { tmps := ((ps.zip (encs x)).foldl (fun t (p, v) => t.setIfInBounds p v) a.tmps).setIfInBounds p (.pointer (some ⟨b, 0, none⟩)), defers := [] })
    (fun l pre x W K h1 h2 h3 h4 => hassign l pre x W K h1 h2 h3 (fun b W' k1 k2 k3 k4 k5 => h4 _ W' k1 k2 k3 k4 ⟨b, k5, rfl⟩))
    (fun x a' A B ⟨b, h, e⟩ h1 h2 => ⟨b, ha₁ x b A B h h1 h2, e⟩)
    (fun l pre x a' W h0 h1 h2 h3 ⟨b, h4, e⟩ => by subst e; exact hbody l pre x b W h0 h1 h2 h3 h4) hdone hstop
end Go.Proofs.YtpgnplmjfhdncaaGreat
