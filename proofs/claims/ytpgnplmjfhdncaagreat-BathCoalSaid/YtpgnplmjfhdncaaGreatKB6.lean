/- The memo: a map whose keys are five numbers. -/
import Derived.Test.YtpgnplmjfhdncaaGreatKB2
import Derived.DeepKeys3
import Derived.Maps.Keyed
namespace Go.Proofs.YtpgnplmjfhdncaaGreat
open Go.RowKit
set_option linter.unusedVariables false
set_option maxRecDepth 100000 in
theorem keyed115 : Maps.Keyed Tryz.prog 115 := Maps.Keyed.of_law (deep_law (m := 2) (by decide) (by kernel_rfl) (by kernel_rfl) (by kernel_rfl))
theorem size115 : Tryz.prog.cellsOf 115 = 5 := by kernel_rfl
theorem kt115 : Tryz.prog.keyType 115 = true := by kernel_rfl
theorem lits3 (d : Nat) (x : Int) (h : (Lit.int .i64 x).wf = true) : Tryz.prog.keyLits (d + 1) 3 [.int .i64 x] = some [.int .i64 x] := by
  simp [Program.keyLits, Tryz.underlying3, h]
theorem wf_small (x : Int) (h0 : 0 ≤ x) (h9 : x ≤ 1000000) : (Lit.int .i64 x).wf = true := by
  have h : IntKind.i64.min = -9223372036854775808 := by decide
  simp [Lit.wf, h]
  omega
theorem keyOf_nv (n : List Int) (hn : ∀ j, 0 ≤ nth n j ∧ nth n j ≤ 1000) : ∃ l, keyOf Tryz.prog 115 (nv n) = some l := by
  have hz : (Tryz.prog.types.size == 0) = false := by kernel_rfl
  obtain ⟨D, hD⟩ : ∃ D, Tryz.prog.types.size + 1 = D + 2 := ⟨Tryz.prog.types.size - 1, by have : Tryz.prog.types.size ≠ 0 := (by simp); omega⟩
  have h0 := lits3 D (nth n 0) (wf_small _ (hn 0).1 (by have := (hn 0).2; omega))
  have h1 := lits3 D (nth n 1) (wf_small _ (hn 1).1 (by have := (hn 1).2; omega))
  have h2 := lits3 D (nth n 2) (wf_small _ (hn 2).1 (by have := (hn 2).2; omega))
  have h3 := lits3 D (nth n 3) (wf_small _ (hn 3).1 (by have := (hn 3).2; omega))
  have h4 := lits3 D (nth n 4) (wf_small _ (hn 4).1 (by have := (hn 4).2; omega))
  have hf : (nv n).formed Tryz.prog 115 = true := by simp [Value.formed, Tryz.underlying115, size115]
  have hk : Tryz.prog.keyLits (D + 2) 115 (nv n).cells.toList = some [.int .i64 (nth n 0), .int .i64 (nth n 1), .int .i64 (nth n 2), .int .i64 (nth n 3), .int .i64 (nth n 4)] := by
    show Tryz.prog.keyLits (D + 1 + 1) 115 [.int .i64 (nth n 0), .int .i64 (nth n 1), .int .i64 (nth n 2), .int .i64 (nth n 3), .int .i64 (nth n 4)] = _
    generalize D + 1 = E at h0 h1 h2 h3 h4 ⊢
    simp only [Program.keyLits, Tryz.underlying115, size115, cells3, List.length_cons, List.length_nil, Nat.zero_add, Nat.reduceAdd, if_true]
    rw [show List.range 5 = [0, 1, 2, 3, 4] from rfl]
    simp [List.mapM_cons, h0, h1, h2, h3, h4]
  refine ⟨.string (keyBytes [.int .i64 (nth n 0), .int .i64 (nth n 1), .int .i64 (nth n 2), .int .i64 (nth n 3), .int .i64 (nth n 4)]), ?_⟩
  unfold keyOf
  simp only [Tryz.underlying115, kt115, hf, hD, hk, Bool.and_self, if_true]
  rfl
/-- The numbers of a key. -/
def Small5 (n : List Int) : Prop := ∀ j, 0 ≤ nth n j ∧ nth n j ≤ 1000
/-- What the map holds: at keys F's value. -/
def MemoEs (F : List Int → Int) (es : Array MapEntry) : Prop := ∀ e ∈ es.toList, ∃ n, Small5 n ∧ e.key = nv n ∧ e.val = .int .i64 (F n)
def MemoAt (F : List Int → Int) (m : Nat) (w : World) : Prop := ∃ es clock, w.heap[m]? = some (.map es clock) ∧ MemoEs F es
/-- F looks at the five numbers alone. -/
def Five (F : List Int → Int) : Prop := ∀ n n', (∀ j, j < 5 → nth n j = nth n' j) → F n = F n'
theorem nv_inj {n n' : List Int} (h : nv n = nv n') : ∀ j, j < 5 → nth n j = nth n' j := by
  simp only [Value.agg.injEq, Array.mk.injEq, List.cons.injEq, Value.int.injEq, true_and, and_true] at h
  intro j hj
  match j, hj with
  | 0, _ => exact h.1
  | 1, _ => exact h.2.1
  | 2, _ => exact h.2.2.1
  | 3, _ => exact h.2.2.2.1
  | 4, _ => exact h.2.2.2.2
theorem run_getMap {r : Nat} {w : World} {es : Array MapEntry} {clock : Nat} (h : w.heap[r]? = some (.map es clock)) : (getObj r).run Tryz.prog w = .ok (.map es clock) w := by
  simp [getObj, Sem.run, h]
theorem run_setMap {r : Nat} {w : World} {es : Array MapEntry} {clock : Nat} (h : w.heap[r]? = some (.map es clock)) (es' : Array MapEntry) (c' : Nat) : (setObj r (.map es' c')).run Tryz.prog w = .ok () (w.putObj r (.map es' c')) := by
  simp [setObj, Sem.run, h, World.putObj]
theorem run_look {F : List Int → Int} (hF : Five F) {m : Nat} {w : World} {es : Array MapEntry} {clock : Nat} (hb : w.heap[m]? = some (.map es clock)) (hm : MemoEs F es) {n : List Int} (hn : Small5 n) :
    ((Instr.lookup 172 (.map (some m)) (nv n) true).run Tryz.prog w = .ok (.tuple #[.int .i64 (F n), .bool true]) w) ∨
    ((Instr.lookup 172 (.map (some m)) (nv n) true).run Tryz.prog w = .ok (.tuple #[.int .i64 0, .bool false]) w ∧ ∀ e ∈ es.toList, e.key ≠ nv n) := by
  obtain ⟨l, hl⟩ := keyOf_nv n hn
  have hchk := keyed115.check w es.isEmpty hl
  have hz : (zeroValue 3).run Tryz.prog w = .ok (.int .i64 0) w := by
    obtain ⟨i0, hi, hzz⟩ := Option.map_eq_some_iff.1 info3
    simp only [Prod.mk.injEq] at hzz
    simp [zeroValue, typeInfo, hi, hzz.1]
  rcases keyed115.find w hl es.toList (fun e he => by obtain ⟨n', h1, h2, _⟩ := hm e he; rw [h2]; exact keyOf_nv n' h1) with ⟨hf, hno⟩ | ⟨j, e, hf, he, hk⟩
  · refine .inr ⟨?_, hno⟩
    simp [Instr.lookup, run_underlying Tryz.underlying172, run_getMap hb, hchk, hf, hz]
  · refine .inl ?_
    obtain ⟨n', h1, h2, h3⟩ := hm e (List.mem_of_getElem? he)
    have : F n' = F n := hF _ _ (nv_inj (h2.symm.trans hk))
    rw [h3, this] at hf
    simp [Instr.lookup, run_underlying Tryz.underlying172, run_getMap hb, hchk, hf]
theorem run_upd {F : List Int → Int} {m : Nat} {w : World} {es : Array MapEntry} {clock : Nat} (hb : w.heap[m]? = some (.map es clock)) (hm : MemoEs F es) {n : List Int} (hn : Small5 n) (hno : ∀ e ∈ es.toList, e.key ≠ nv n) :
    ∃ w', (Instr.mapUpdate 172 (.map (some m)) (nv n) (.int .i64 (F n))).run Tryz.prog w = .ok () w' ∧ MemoAt F m w' ∧ Ext [m] w w' := by
  obtain ⟨l, hl⟩ := keyOf_nv n hn
  have hchk := keyed115.check w false hl
  rcases keyed115.find w hl es.toList (fun e he => by obtain ⟨n', h1, h2, _⟩ := hm e he; rw [h2]; exact keyOf_nv n' h1) with ⟨hf, _⟩ | ⟨j, e, hf, he, hk⟩
  · refine ⟨w.putObj m (.map (es.push { key := nv n, val := .int .i64 (F n), born := clock }) (clock + 1)), ?_, ?_, ?_⟩
    · simp [Instr.mapUpdate, run_underlying Tryz.underlying172, run_getMap hb, hchk, hf, run_setMap hb]
    · refine ⟨_, _, World.putObj_heap_same (Array.getElem?_eq_some_iff.1 hb).1, ?_⟩
      intro e he
      simp at he
      rcases he with he | rfl
      · exact hm e (by simpa using he)
      · exact ⟨n, hn, rfl, rfl⟩
    · have := (Grown.refl (fun k => k = m) w).putObj (l := m) (.inl rfl) (.map (es.push { key := nv n, val := .int .i64 (F n), born := clock }) (clock + 1))
      exact ⟨this.os, this.tape, this.output, this.size, fun k hk hn => this.block k hk (fun e => hn (by simp [e]))⟩
  · exact (hno e (List.mem_of_getElem? he) hk).elim
theorem look_yes {F : List Int → Int} (hF : Five F) {m : Nat} {w : World} {es : Array MapEntry} {clock : Nat} (hb : w.heap[m]? = some (.map es clock)) (hm : MemoEs F es) {n : List Int} (hn : Small5 n) (hy : ∃ e ∈ es.toList, e.key = nv n) :
    (Instr.lookup 172 (.map (some m)) (nv n) true).run Tryz.prog w = .ok (.tuple #[.int .i64 (F n), .bool true]) w := by
  rcases run_look hF hb hm hn with h | ⟨_, h⟩
  · exact h
  · obtain ⟨e, he, hk⟩ := hy
    exact (h e he hk).elim
theorem look_no {F : List Int → Int} (hF : Five F) {m : Nat} {w : World} {es : Array MapEntry} {clock : Nat} (hb : w.heap[m]? = some (.map es clock)) (hm : MemoEs F es) {n : List Int} (hn : Small5 n) (hy : ¬ ∃ e ∈ es.toList, e.key = nv n) :
    (Instr.lookup 172 (.map (some m)) (nv n) true).run Tryz.prog w = .ok (.tuple #[.int .i64 0, .bool false]) w := by
  obtain ⟨l, hl⟩ := keyOf_nv n hn
  have hchk := keyed115.check w es.isEmpty hl
  have hz : (zeroValue 3).run Tryz.prog w = .ok (.int .i64 0) w := by
    obtain ⟨i0, hi, hzz⟩ := Option.map_eq_some_iff.1 info3
    simp only [Prod.mk.injEq] at hzz
    simp [zeroValue, typeInfo, hi, hzz.1]
  rcases keyed115.find w hl es.toList (fun e he => by obtain ⟨n', h1, h2, _⟩ := hm e he; rw [h2]; exact keyOf_nv n' h1) with ⟨hf, hno⟩ | ⟨j, e, hf, he, hk⟩
  · simp [Instr.lookup, run_underlying Tryz.underlying172, run_getMap hb, hchk, hf, hz]
  · exact (hy ⟨e, List.mem_of_getElem? he, hk⟩).elim
end Go.Proofs.YtpgnplmjfhdncaaGreat
namespace Go.Proofs.YtpgnplmjfhdncaaGreat
open Go.RowKit
set_option linter.unusedVariables false
/-- Whether all is kept with so many baths. -/
def keepsF (r : Rm) (n : List Int) : Int := moreC r.cop (bucketsL r n)
theorem verd_cases (a b : Int) : verd a b = 1 ∨ verd a b = 2 ∨ verd a b = 3 := by
  unfold verd
  split
  · exact .inl rfl
  · split
    · exact .inr (.inl rfl)
    · exact .inr (.inr rfl)
theorem keeps_cases (r : Rm) (n : List Int) : keepsF r n = 1 ∨ keepsF r n = 2 ∨ keepsF r n = 3 := verd_cases _ _
theorem rowI_congr {f g : Nat → Int} {n : Nat} (h : ∀ j, j < n → f j = g j) : rowI f n = rowI g n := by
  unfold rowI
  apply List.map_congr_left
  intro j hj
  exact h j (List.mem_range.1 hj)
theorem keeps_five (r : Rm) (h4 : r.cop.last ≤ 4) : Five (keepsF r) := fun n n' h => by
  unfold keepsF
  have : bucketsL r n = bucketsL r n' := rowI_congr fun j hj => by rw [h j (by omega)]
  rw [this]
theorem canB_at {r : Rm} {n : List Int} (h : canB r n = true) (j : Nat) (hj : j < (r.cop.last + 1).toNat) : nth n j = 0 ∨ (nth n j ≤ r.places ∧ nth r.cop.want j + r.buckets * nth n j ≤ 20) := by
  have : ∀ (d i : Nat), canFrom r n i d = true → ∀ j, i ≤ j → j < i + d → roomB r.places (nth r.cop.want j) r.buckets (nth n j) = true := by
    intro d
    induction d with
    | zero => intro i _ j h1 h2; omega
    | succ d ih =>
      intro i hc j h1 h2
      simp only [canFrom, Bool.and_eq_true] at hc
      by_cases he : j = i
      · subst he; exact hc.1
      · exact ih (i + 1) hc.2 j (by omega) (by omega)
  have h1 := this _ 0 h j (Nat.zero_le _) (by omega)
  simpa [roomB] using h1
theorem buckets_bd {r : Rm} (ho : RoomOk r) {n : List Int} (hn : ∀ j, 0 ≤ nth n j) (h : canB r n = true) : ∀ j, 0 ≤ nth (bucketsL r n) j ∧ nth (bucketsL r n) j ≤ 20 := fun j => by
  by_cases hj : j < (r.cop.last + 1).toNat
  · rw [bucketsL, nth_rowI _ hj]
    have h0 : 0 ≤ r.buckets * nth n j := Int.mul_nonneg (by have := ho.b1; omega) (hn j)
    rcases canB_at h j hj with h1 | ⟨_, h2⟩
    · rw [h1]; simp
    · have := ho.cop.wb j; omega
  · rw [nth_out _ _ (by rw [bucketsL, rowI_len]; omega)]; omega
/-- A room at work in block wb, its map in block m; what it is handed lies below B. -/
structure BW (r : Rm) (q : RA) (B wb m : Nat) (w : World) : Prop where
  ok : RoomOk r
  cells : w.heap[wb]? = some (.cells (bwCs r q m) 174 (0, 0))
  memo : MemoAt (keepsF r) m w
  at_ : RoomAt w B r q
  bm : B ≤ m
  wbm : wb = m + 1
theorem BW.lt {r : Rm} {q : RA} {B wb m : Nat} {w : World} (h : BW r q B wb m w) : wb < w.heap.size := (Array.getElem?_eq_some_iff.1 h.cells).1
theorem MemoAt.up {F : List Int → Int} {m : Nat} {w W : World} (h : MemoAt F m w) (hb : Below w.heap.size w W) : MemoAt F m W := by
  obtain ⟨es, clock, h1, h2⟩ := h
  exact ⟨es, clock, (hb.block _ (Array.getElem?_eq_some_iff.1 h1).1).trans h1, h2⟩
theorem BW.up {r : Rm} {q : RA} {B wb m : Nat} {w W : World} (h : BW r q B wb m w) (hb : Below w.heap.size w W) : BW r q B wb m W :=
  ⟨h.ok, (hb.block _ h.lt).trans h.cells, h.memo.up hb, h.at_.below ⟨hb.os, hb.tape, hb.output, hb.size, fun k hk => hb.block k (by have := h.lt; have := h.bm; have := h.wbm; omega)⟩, h.bm, h.wbm⟩
theorem BW.copAt {r : Rm} {q : RA} {B wb m : Nat} {w : World} (h : BW r q B wb m w) : CopAt w w.heap.size r.cop q.q := h.at_.cop.mono (by have := h.lt; have := h.bm; have := h.wbm; omega)
theorem BW.ext {r : Rm} {q : RA} {B wb m : Nat} {w W : World} (h : BW r q B wb m w) (he : Ext [m] w W) (hm : MemoAt (keepsF r) m W) : BW r q B wb m W :=
  ⟨h.ok, (he.block _ h.lt (by have := h.wbm; simp; omega)).trans h.cells, hm, h.at_.below (he.below (by have := h.lt; have := h.bm; have := h.wbm; omega) (fun k hk => by simp at hk; subst hk; exact h.bm)), h.bm, h.wbm⟩
set_option maxRecDepth 100000 in
set_option maxHeartbeats 8000000 in
theorem keepsR_c (r : Rm) (q : RA) (B wb m : Nat) (n : List Int) (w : World) (h : BW r q B wb m w) (hn : ∀ j, 0 ≤ nth n j ∧ nth n j ≤ 100) (hc : canB r n = true) :
    Calls Tryz.prog 120 #[.pointer (some ⟨wb, 0, none⟩), nv n] w fun e w' => e = .returned (.int .i64 (keepsF r n)) ∧ BW r q B wb m w' ∧ Ext [m] w w' := by
  obtain ⟨es, clock, hmb, hmes⟩ := h.memo
  have hs5 : Small5 n := fun j => by have := hn j; omega
  have hwbl := h.lt
  have HWBM := Lib.hid h.wbm
  have HW := Lib.hid h
  have HN := Lib.hid hn
  have hwb0 : Box w wb (bwCs r q m) := fun o => by simp [World.cell?, h.cells]
  have hwb14 : w.cell? ⟨wb, 14, none⟩ = some (.map (some m)) := hwb0 14
  have HWB := Lib.hid hwb0
  have HBD := Lib.hid (buckets_bd h.ok (fun j => (hn j).1) hc)
  have HMB := Lib.hid hmb
  have HMES := Lib.hid hmes
  have HS5 := Lib.hid hs5
  have HF5 := Lib.hid (keeps_five r h.ok.cop.l4)
  have HML := Lib.hid ((Array.getElem?_eq_some_iff.1 hmb).1)
  clear h hn hwb0 hc hmb hmes hs5
  have HP : Hid (∀ d, (plus (w.alloc (.cells (nvs n) 115)) d).heap[m]? = some (.map es clock)) := fun d => (plus_heap (w.alloc (.cells (nvs n) 115)) d m (by have := HML.out; simp; omega)).trans (heap_al HMB.out (.cells (nvs n) 115))
  by_cases hyes : ∃ e ∈ es.toList, e.key = nv n
  · have hlk : ∀ d, (Instr.lookup 172 (.map (some m)) (nv n) true).run Tryz.prog (plus (w.alloc (.cells (nvs n) 115)) d) = .ok (.tuple #[.int .i64 (keepsF r n), .bool true]) (plus (w.alloc (.cells (nvs n) 115)) d) := fun d => look_yes HF5.out (HP.out d) HMES.out HS5.out hyes
    clear hyes
    go_enter Tryz.func120, Tryz.ntmps120
    go_wp2
    refine wp_region_plus (by kernel_rfl) ?_
    repeat (go_big_quiet_step (fail))
    refine wpQuiet_nil ?_
    rintro _ ⟨d, rfl⟩
    clear hlk
    go_wp2
    go_ret
    have hbl : Below w.heap.size w (plus (w.alloc (.cells (nvs n) 115)) d) := bl_pl (bl_al (Below.refl _ _) _) d
    exact ⟨rfl, HW.out.up hbl, Ext.of_below hbl⟩
  · have hlk : ∀ d, (Instr.lookup 172 (.map (some m)) (nv n) true).run Tryz.prog (plus (w.alloc (.cells (nvs n) 115)) d) = .ok (.tuple #[.int .i64 0, .bool false]) (plus (w.alloc (.cells (nvs n) 115)) d) := fun d => look_no HF5.out (HP.out d) HMES.out HS5.out hyes
    have HNO : Hid (∀ e ∈ es.toList, e.key ≠ nv n) := fun e he hk => hyes ⟨e, he, hk⟩
    clear hyes
    go_enter Tryz.func120, Tryz.ntmps120
    go_wp2
    refine wp_region_plus (by kernel_rfl) ?_
    repeat (go_big_quiet_step (fail))
    refine wpQuiet_nil ?_
    rintro _ ⟨d, rfl⟩
    clear hlk hwb14
    obtain ⟨W1, hW1⟩ : ∃ W1, plus (w.alloc (.cells (nvs n) 115)) d = W1 := ⟨_, rfl⟩
    rw [hW1]
    have HB1 : Hid (Below w.heap.size w W1) := by rw [← hW1]; exact bl_pl (bl_al (Below.refl _ _) _) d
    have hbx : Box W1 w.heap.size (nvs n) := by rw [← hW1]; exact (Box.new w (nvs n) 115 (0, 0)).plus d (by simp)
    have hwb := HWB.out
    have HBX := Lib.hid hbx
    have k0 : W1.cell? ⟨wb, 0, none⟩ = some (.int .i64 r.cop.last) := (cell_later HB1.out (hwb 0))
    have k1 : W1.cell? ⟨wb, 1, none⟩ = some (.int .i64 r.cop.start) := (cell_later HB1.out (hwb 1))
    have k2 : W1.cell? ⟨wb, 2, none⟩ = some (.int .i64 r.cop.most) := (cell_later HB1.out (hwb 2))
    have k3 : W1.cell? ⟨wb, 3, none⟩ = some (.int .i64 r.cop.per) := (cell_later HB1.out (hwb 3))
    have k4 : W1.cell? ⟨wb, 4, none⟩ = some (.int .i64 r.cop.shovels) := (cell_later HB1.out (hwb 4))
    have k5 : W1.cell? ⟨wb, 5, none⟩ = some (.slice q.q.a1 r.cop.coal.length q.q.c1) := (cell_later HB1.out (hwb 5))
    have k6 : W1.cell? ⟨wb, 6, none⟩ = some (.slice q.q.a2 r.cop.want.length q.q.c2) := (cell_later HB1.out (hwb 6))
    have k7 : W1.cell? ⟨wb, 7, none⟩ = some (.int .i64 r.cop.hlo) := (cell_later HB1.out (hwb 7))
    have k8 : W1.cell? ⟨wb, 8, none⟩ = some (.int .i64 r.cop.hhi) := (cell_later HB1.out (hwb 8))
    have k9 : W1.cell? ⟨wb, 9, none⟩ = some (.slice q.q.a3 r.cop.loss.length q.q.c3) := (cell_later HB1.out (hwb 9))
    have k10 : W1.cell? ⟨wb, 10, none⟩ = some (.slice q.q.a4 r.cop.rds.length q.q.c4) := (cell_later HB1.out (hwb 10))
    have k11 : W1.cell? ⟨wb, 11, none⟩ = some (.int .i64 r.buckets) := (cell_later HB1.out (hwb 11))
    have k12 : W1.cell? ⟨wb, 12, none⟩ = some (.int .i64 r.places) := (cell_later HB1.out (hwb 12))
    have k13 : W1.cell? ⟨wb, 13, none⟩ = some (.slice q.a5 r.baths.length q.c5) := (cell_later HB1.out (hwb 13))
    have k14 : W1.cell? ⟨w.heap.size, 0, none⟩ = some (.int .i64 (nth n 0)) := (hbx 0)
    have k15 : W1.cell? ⟨w.heap.size, 1, none⟩ = some (.int .i64 (nth n 1)) := (hbx 1)
    have k16 : W1.cell? ⟨w.heap.size, 2, none⟩ = some (.int .i64 (nth n 2)) := (hbx 2)
    have k17 : W1.cell? ⟨w.heap.size, 3, none⟩ = some (.int .i64 (nth n 3)) := (hbx 3)
    have k18 : W1.cell? ⟨w.heap.size, 4, none⟩ = some (.int .i64 (nth n 4)) := (hbx 4)
    clear hbx hwb hW1
    go_wp2
    go_region_held3 (fun w' => w'.cell? ⟨wb, 0, none⟩ = some (.int .i64 r.cop.last) ∧ w'.cell? ⟨wb, 1, none⟩ = some (.int .i64 r.cop.start) ∧ w'.cell? ⟨wb, 2, none⟩ = some (.int .i64 r.cop.most) ∧ w'.cell? ⟨wb, 3, none⟩ = some (.int .i64 r.cop.per) ∧ w'.cell? ⟨wb, 4, none⟩ = some (.int .i64 r.cop.shovels) ∧ w'.cell? ⟨wb, 5, none⟩ = some (.slice q.q.a1 r.cop.coal.length q.q.c1) ∧ w'.cell? ⟨wb, 6, none⟩ = some (.slice q.q.a2 r.cop.want.length q.q.c2) ∧ w'.cell? ⟨wb, 7, none⟩ = some (.int .i64 r.cop.hlo) ∧ w'.cell? ⟨wb, 8, none⟩ = some (.int .i64 r.cop.hhi) ∧ w'.cell? ⟨wb, 9, none⟩ = some (.slice q.q.a3 r.cop.loss.length q.q.c3) ∧ w'.cell? ⟨wb, 10, none⟩ = some (.slice q.q.a4 r.cop.rds.length q.q.c4) ∧ w'.cell? ⟨wb, 11, none⟩ = some (.int .i64 r.buckets) ∧ w'.cell? ⟨wb, 12, none⟩ = some (.int .i64 r.places) ∧ w'.cell? ⟨wb, 13, none⟩ = some (.slice q.a5 r.baths.length q.c5) ∧ w'.cell? ⟨w.heap.size, 0, none⟩ = some (.int .i64 (nth n 0)) ∧ w'.cell? ⟨w.heap.size, 1, none⟩ = some (.int .i64 (nth n 1)) ∧ w'.cell? ⟨w.heap.size, 2, none⟩ = some (.int .i64 (nth n 2)) ∧ w'.cell? ⟨w.heap.size, 3, none⟩ = some (.int .i64 (nth n 3)) ∧ w'.cell? ⟨w.heap.size, 4, none⟩ = some (.int .i64 (nth n 4))) (first | assumption | go_keep) (first | (go_at_call 84; refine (buckets_r r q n _ HW.out.ok.cop.l0 HW.out.ok.cop.l4 HW.out.ok.b1 HW.out.ok.b9 HN.out).mono ?_; rintro e w5 ⟨u, rfl, hown, hb5⟩; obtain ⟨A, kk, rfl, hI, -⟩ := own_ints hown; have HI := Lib.hid hI; have HB5 := Lib.hid hb5; have hS5 : (fun w' => w'.cell? ⟨wb, 0, none⟩ = some (.int .i64 r.cop.last) ∧ w'.cell? ⟨wb, 1, none⟩ = some (.int .i64 r.cop.start) ∧ w'.cell? ⟨wb, 2, none⟩ = some (.int .i64 r.cop.most) ∧ w'.cell? ⟨wb, 3, none⟩ = some (.int .i64 r.cop.per) ∧ w'.cell? ⟨wb, 4, none⟩ = some (.int .i64 r.cop.shovels) ∧ w'.cell? ⟨wb, 5, none⟩ = some (.slice q.q.a1 r.cop.coal.length q.q.c1) ∧ w'.cell? ⟨wb, 6, none⟩ = some (.slice q.q.a2 r.cop.want.length q.q.c2) ∧ w'.cell? ⟨wb, 7, none⟩ = some (.int .i64 r.cop.hlo) ∧ w'.cell? ⟨wb, 8, none⟩ = some (.int .i64 r.cop.hhi) ∧ w'.cell? ⟨wb, 9, none⟩ = some (.slice q.q.a3 r.cop.loss.length q.q.c3) ∧ w'.cell? ⟨wb, 10, none⟩ = some (.slice q.q.a4 r.cop.rds.length q.q.c4) ∧ w'.cell? ⟨wb, 11, none⟩ = some (.int .i64 r.buckets) ∧ w'.cell? ⟨wb, 12, none⟩ = some (.int .i64 r.places) ∧ w'.cell? ⟨wb, 13, none⟩ = some (.slice q.a5 r.baths.length q.c5) ∧ w'.cell? ⟨w.heap.size, 0, none⟩ = some (.int .i64 (nth n 0)) ∧ w'.cell? ⟨w.heap.size, 1, none⟩ = some (.int .i64 (nth n 1)) ∧ w'.cell? ⟨w.heap.size, 2, none⟩ = some (.int .i64 (nth n 2)) ∧ w'.cell? ⟨w.heap.size, 3, none⟩ = some (.int .i64 (nth n 3)) ∧ w'.cell? ⟨w.heap.size, 4, none⟩ = some (.int .i64 (nth n 4))) w5 := ⟨cell_later hb5 (w := W1.drew) k0, cell_later hb5 (w := W1.drew) k1, cell_later hb5 (w := W1.drew) k2, cell_later hb5 (w := W1.drew) k3, cell_later hb5 (w := W1.drew) k4, cell_later hb5 (w := W1.drew) k5, cell_later hb5 (w := W1.drew) k6, cell_later hb5 (w := W1.drew) k7, cell_later hb5 (w := W1.drew) k8, cell_later hb5 (w := W1.drew) k9, cell_later hb5 (w := W1.drew) k10, cell_later hb5 (w := W1.drew) k11, cell_later hb5 (w := W1.drew) k12, cell_later hb5 (w := W1.drew) k13, cell_later hb5 (w := W1.drew) k14, cell_later hb5 (w := W1.drew) k15, cell_later hb5 (w := W1.drew) k16, cell_later hb5 (w := W1.drew) k17, cell_later hb5 (w := W1.drew) k18⟩; dsimp only at hS5; clear hb5 hown hI) | (go_at_call 69; refine (more_c r.cop q.q (bucketsL r n) A kk _ ((HW.out.up (bl_tr (bl_dr HB1.out) HB5.out)).copAt) HW.out.ok.chk HW.out.ok.tr (by have := HW.out.ok.cop.l0; rw [bucketsL, rowI_len]; omega) HBD.out HI.out).mono ?_; rintro e w6 ⟨rfl, hb6⟩; have HB6 := Lib.hid (bl_tr HB5.out hb6); have hS6 : (fun w' => w'.cell? ⟨wb, 0, none⟩ = some (.int .i64 r.cop.last) ∧ w'.cell? ⟨wb, 1, none⟩ = some (.int .i64 r.cop.start) ∧ w'.cell? ⟨wb, 2, none⟩ = some (.int .i64 r.cop.most) ∧ w'.cell? ⟨wb, 3, none⟩ = some (.int .i64 r.cop.per) ∧ w'.cell? ⟨wb, 4, none⟩ = some (.int .i64 r.cop.shovels) ∧ w'.cell? ⟨wb, 5, none⟩ = some (.slice q.q.a1 r.cop.coal.length q.q.c1) ∧ w'.cell? ⟨wb, 6, none⟩ = some (.slice q.q.a2 r.cop.want.length q.q.c2) ∧ w'.cell? ⟨wb, 7, none⟩ = some (.int .i64 r.cop.hlo) ∧ w'.cell? ⟨wb, 8, none⟩ = some (.int .i64 r.cop.hhi) ∧ w'.cell? ⟨wb, 9, none⟩ = some (.slice q.q.a3 r.cop.loss.length q.q.c3) ∧ w'.cell? ⟨wb, 10, none⟩ = some (.slice q.q.a4 r.cop.rds.length q.q.c4) ∧ w'.cell? ⟨wb, 11, none⟩ = some (.int .i64 r.buckets) ∧ w'.cell? ⟨wb, 12, none⟩ = some (.int .i64 r.places) ∧ w'.cell? ⟨wb, 13, none⟩ = some (.slice q.a5 r.baths.length q.c5) ∧ w'.cell? ⟨w.heap.size, 0, none⟩ = some (.int .i64 (nth n 0)) ∧ w'.cell? ⟨w.heap.size, 1, none⟩ = some (.int .i64 (nth n 1)) ∧ w'.cell? ⟨w.heap.size, 2, none⟩ = some (.int .i64 (nth n 2)) ∧ w'.cell? ⟨w.heap.size, 3, none⟩ = some (.int .i64 (nth n 3)) ∧ w'.cell? ⟨w.heap.size, 4, none⟩ = some (.int .i64 (nth n 4))) w6 := ⟨cell_later (bl_tr HB5.out hb6) (w := W1.drew) k0, cell_later (bl_tr HB5.out hb6) (w := W1.drew) k1, cell_later (bl_tr HB5.out hb6) (w := W1.drew) k2, cell_later (bl_tr HB5.out hb6) (w := W1.drew) k3, cell_later (bl_tr HB5.out hb6) (w := W1.drew) k4, cell_later (bl_tr HB5.out hb6) (w := W1.drew) k5, cell_later (bl_tr HB5.out hb6) (w := W1.drew) k6, cell_later (bl_tr HB5.out hb6) (w := W1.drew) k7, cell_later (bl_tr HB5.out hb6) (w := W1.drew) k8, cell_later (bl_tr HB5.out hb6) (w := W1.drew) k9, cell_later (bl_tr HB5.out hb6) (w := W1.drew) k10, cell_later (bl_tr HB5.out hb6) (w := W1.drew) k11, cell_later (bl_tr HB5.out hb6) (w := W1.drew) k12, cell_later (bl_tr HB5.out hb6) (w := W1.drew) k13, cell_later (bl_tr HB5.out hb6) (w := W1.drew) k14, cell_later (bl_tr HB5.out hb6) (w := W1.drew) k15, cell_later (bl_tr HB5.out hb6) (w := W1.drew) k16, cell_later (bl_tr HB5.out hb6) (w := W1.drew) k17, cell_later (bl_tr HB5.out hb6) (w := W1.drew) k18⟩; dsimp only at hS6; clear hb6 hS5))
    have HT : Hid (Below w.heap.size w w6) := bl_tr (bl_dr HB1.out) HB6.out
    have kmm : w6.cell? ⟨wb, 14, none⟩ = some (.map (some m)) := cell_later HT.out (HWB.out 14)
    have hmb6 : w6.drew.heap[m]? = some (.map es clock) := (HT.out.block _ HML.out).trans HMB.out
    obtain ⟨w8, hupd, hmem, hext⟩ := run_upd hmb6 HMES.out HS5.out HNO.out
    have HMEM := Lib.hid hmem
    have HEXT := Lib.hid hext
    obtain ⟨p0, p1, p2, p3, p4, p5, p6, p7, p8, p9, p10, p11, p12, p13, n0, n1, n2, n3, n4⟩ := hS6
    clear hmem hext hmb6 p0 p1 p2 p3 p4 p5 p6 p7 p8 p9 p10 p11 p12 p13 k14 k0 k1 k2 k3 k4 k5 k6 k7 k8 k9 k10 k11 k12 k13 k15 k16 k17 k18
    have hkf : Hid (moreC r.cop (bucketsL r n) = keepsF r n) := rfl
    rw [hkf.out]
    have x14 : w8.cell? ⟨wb, 14, none⟩ = some (.map (some m)) := (HEXT.out.cell (by have := HT.out.size; show wb < w6.heap.size; omega) (by have := HWBM.out; simp; omega)).trans kmm
    have HWS := Lib.hid HT.out.size
    have hxs : ∀ o, w8.cell? ⟨w.heap.size, o, none⟩ = w6.cell? ⟨w.heap.size, o, none⟩ := fun o => HEXT.out.cell (w := w6.drew) (by have h6 : Box w6 w.heap.size (nvs n) := Box.bl (w := W1.drew) (fun o => HBX.out o) (by simp) HB6.out; exact h6.lt (by simp)) (by have := HML.out; simp; omega)
    have x0 := (hxs 0).trans n0
    have x1 := (hxs 1).trans n1
    have x2 := (hxs 2).trans n2
    have x3 := (hxs 3).trans n3
    have x4 := (hxs 4).trans n4
    clear hxs
    have HFIN : Hid (BW r q B wb m w8 ∧ Ext [m] w w8) := ⟨((HW.out.up HT.out).up (bl_dr (Below.refl _ _))).ext HEXT.out HMEM.out, (Ext.of_below (bl_dr HT.out)).trans HEXT.out⟩
    rcases keeps_cases r n with h | h | h
    all_goals (
      have HH := Lib.hid h
      rw [h] at hupd ⊢
      clear h
      go_wp2
      go_region_held3 (fun w' => w'.cell? ⟨wb, 14, none⟩ = some (.map (some m)) ∧ w'.cell? ⟨w.heap.size, 0, none⟩ = some (.int .i64 (nth n 0)) ∧ w'.cell? ⟨w.heap.size, 1, none⟩ = some (.int .i64 (nth n 1)) ∧ w'.cell? ⟨w.heap.size, 2, none⟩ = some (.int .i64 (nth n 2)) ∧ w'.cell? ⟨w.heap.size, 3, none⟩ = some (.int .i64 (nth n 3)) ∧ w'.cell? ⟨w.heap.size, 4, none⟩ = some (.int .i64 (nth n 4))) (first | go_keep) (fail)
      go_wp2
      go_ret
      exact ⟨by rw [HH.out]; rfl, HFIN.out⟩)
end Go.Proofs.YtpgnplmjfhdncaaGreat
namespace Go.Proofs.YtpgnplmjfhdncaaGreat
open Go.RowKit
set_option linter.unusedVariables false
/-- Whether so many baths are possible, and all is kept always. -/
def sureB (r : Rm) (n : List Int) : Bool := canB r n && (keepsF r n == 1)
set_option maxRecDepth 100000 in
set_option maxHeartbeats 8000000 in
theorem sureR_c (r : Rm) (q : RA) (B wb m : Nat) (n : List Int) (w : World) (h : BW r q B wb m w) (hn : ∀ j, 0 ≤ nth n j ∧ nth n j ≤ 100) :
    Calls Tryz.prog 98 #[.pointer (some ⟨wb, 0, none⟩), nv n] w fun e w' => e = .returned (.bool (sureB r n)) ∧ BW r q B wb m w' ∧ Ext [m] w w' := by
  have HW := Lib.hid h
  have HN := Lib.hid hn
  have hwb0 : Box w wb (bwCs r q m) := fun o => by simp [World.cell?, h.cells]
  have HWB := Lib.hid hwb0
  have HLT := Lib.hid h.lt
  have HWBM := Lib.hid h.wbm
  clear h hn hwb0
  obtain ⟨W1, hW1⟩ : ∃ W1, w.alloc (.cells (nvs n) 115) = W1 := ⟨_, rfl⟩
  have HB1 : Hid (Below w.heap.size w W1) := by rw [← hW1]; exact bl_al (Below.refl _ _) _
  have hbx : Box W1 w.heap.size (nvs n) := by rw [← hW1]; exact Box.new w (nvs n) 115 (0, 0)
  have HBX := Lib.hid hbx
  have HS1 : Hid (W1.heap.size = w.heap.size + 1) := by rw [← hW1]; exact World.size_alloc _ _
  have hwb := HWB.out
  have HRM : Hid (∀ d, RoomAt (plus W1 d) (plus W1 d).heap.size r q) := fun d => (HW.out.up (bl_pl HB1.out d)).at_.mono (by have := (HW.out.up (bl_pl HB1.out d)).lt; have := HW.out.bm; have := HWBM.out; omega)
  have HRM2 : Hid (RoomAt W1.drew W1.drew.heap.size r q) := (HW.out.up (bl_dr HB1.out)).at_.mono (by have := (HW.out.up (bl_dr HB1.out)).lt; have := HW.out.bm; have := HWBM.out; omega)
  cases hc : canB r n with
  | false =>
    have HF : Hid (sureB r n = false) := by unfold Hid; simp [sureB, hc]
    have HC : Hid (∀ d, Calls Tryz.prog 127 #[roomV r q, nv n] (plus W1 d) fun e w' => e = .returned (.bool false) ∧ Below (plus W1 d).heap.size (plus W1 d) w') := fun d => by have h := possible_c r q n (plus W1 d) (HRM.out d) HW.out.ok.fine (fun j => (HN.out j).1); rw [hc] at h; exact h
    clear hc
    have k0 : W1.cell? ⟨wb, 0, none⟩ = some (.int .i64 r.cop.last) := (cell_later HB1.out (hwb 0))
    have k1 : W1.cell? ⟨wb, 1, none⟩ = some (.int .i64 r.cop.start) := (cell_later HB1.out (hwb 1))
    have k2 : W1.cell? ⟨wb, 2, none⟩ = some (.int .i64 r.cop.most) := (cell_later HB1.out (hwb 2))
    have k3 : W1.cell? ⟨wb, 3, none⟩ = some (.int .i64 r.cop.per) := (cell_later HB1.out (hwb 3))
    have k4 : W1.cell? ⟨wb, 4, none⟩ = some (.int .i64 r.cop.shovels) := (cell_later HB1.out (hwb 4))
    have k5 : W1.cell? ⟨wb, 5, none⟩ = some (.slice q.q.a1 r.cop.coal.length q.q.c1) := (cell_later HB1.out (hwb 5))
    have k6 : W1.cell? ⟨wb, 6, none⟩ = some (.slice q.q.a2 r.cop.want.length q.q.c2) := (cell_later HB1.out (hwb 6))
    have k7 : W1.cell? ⟨wb, 7, none⟩ = some (.int .i64 r.cop.hlo) := (cell_later HB1.out (hwb 7))
    have k8 : W1.cell? ⟨wb, 8, none⟩ = some (.int .i64 r.cop.hhi) := (cell_later HB1.out (hwb 8))
    have k9 : W1.cell? ⟨wb, 9, none⟩ = some (.slice q.q.a3 r.cop.loss.length q.q.c3) := (cell_later HB1.out (hwb 9))
    have k10 : W1.cell? ⟨wb, 10, none⟩ = some (.slice q.q.a4 r.cop.rds.length q.q.c4) := (cell_later HB1.out (hwb 10))
    have k11 : W1.cell? ⟨wb, 11, none⟩ = some (.int .i64 r.buckets) := (cell_later HB1.out (hwb 11))
    have k12 : W1.cell? ⟨wb, 12, none⟩ = some (.int .i64 r.places) := (cell_later HB1.out (hwb 12))
    have k13 : W1.cell? ⟨wb, 13, none⟩ = some (.slice q.a5 r.baths.length q.c5) := (cell_later HB1.out (hwb 13))
    have k14 : W1.cell? ⟨w.heap.size, 0, none⟩ = some (.int .i64 (nth n 0)) := (hbx 0)
    have k15 : W1.cell? ⟨w.heap.size, 1, none⟩ = some (.int .i64 (nth n 1)) := (hbx 1)
    have k16 : W1.cell? ⟨w.heap.size, 2, none⟩ = some (.int .i64 (nth n 2)) := (hbx 2)
    have k17 : W1.cell? ⟨w.heap.size, 3, none⟩ = some (.int .i64 (nth n 3)) := (hbx 3)
    have k18 : W1.cell? ⟨w.heap.size, 4, none⟩ = some (.int .i64 (nth n 4)) := (hbx 4)
    clear hbx hwb
    go_enter Tryz.func98, Tryz.ntmps98
    go_wp2
    clear hW1
    refine wp_region_plus (by kernel_rfl) ?_
    repeat (go_big_quiet_step ((go_at_call 127; exact Calls.pl (HC.out _))))
    refine wpQuiet_nil ?_
    rintro _ ⟨d, rfl⟩
    go_wp2
    go_ret
    exact ⟨by rw [HF.out]; rfl, HW.out.up (bl_pl HB1.out d), Ext.of_below (bl_pl HB1.out d)⟩
  | true =>
    have HF : Hid (sureB r n = (keepsF r n == 1)) := by unfold Hid; simp [sureB, hc]
    have HC : Hid (Calls Tryz.prog 127 #[roomV r q, nv n] W1.drew fun e w' => e = .returned (.bool true) ∧ Below W1.drew.heap.size W1.drew w') := by have h := possible_c r q n W1.drew HRM2.out HW.out.ok.fine (fun j => (HN.out j).1); rw [hc] at h; exact h
    have HCT := Lib.hid hc
    clear hc
    have k0 : W1.cell? ⟨wb, 0, none⟩ = some (.int .i64 r.cop.last) := (cell_later HB1.out (hwb 0))
    have k1 : W1.cell? ⟨wb, 1, none⟩ = some (.int .i64 r.cop.start) := (cell_later HB1.out (hwb 1))
    have k2 : W1.cell? ⟨wb, 2, none⟩ = some (.int .i64 r.cop.most) := (cell_later HB1.out (hwb 2))
    have k3 : W1.cell? ⟨wb, 3, none⟩ = some (.int .i64 r.cop.per) := (cell_later HB1.out (hwb 3))
    have k4 : W1.cell? ⟨wb, 4, none⟩ = some (.int .i64 r.cop.shovels) := (cell_later HB1.out (hwb 4))
    have k5 : W1.cell? ⟨wb, 5, none⟩ = some (.slice q.q.a1 r.cop.coal.length q.q.c1) := (cell_later HB1.out (hwb 5))
    have k6 : W1.cell? ⟨wb, 6, none⟩ = some (.slice q.q.a2 r.cop.want.length q.q.c2) := (cell_later HB1.out (hwb 6))
    have k7 : W1.cell? ⟨wb, 7, none⟩ = some (.int .i64 r.cop.hlo) := (cell_later HB1.out (hwb 7))
    have k8 : W1.cell? ⟨wb, 8, none⟩ = some (.int .i64 r.cop.hhi) := (cell_later HB1.out (hwb 8))
    have k9 : W1.cell? ⟨wb, 9, none⟩ = some (.slice q.q.a3 r.cop.loss.length q.q.c3) := (cell_later HB1.out (hwb 9))
    have k10 : W1.cell? ⟨wb, 10, none⟩ = some (.slice q.q.a4 r.cop.rds.length q.q.c4) := (cell_later HB1.out (hwb 10))
    have k11 : W1.cell? ⟨wb, 11, none⟩ = some (.int .i64 r.buckets) := (cell_later HB1.out (hwb 11))
    have k12 : W1.cell? ⟨wb, 12, none⟩ = some (.int .i64 r.places) := (cell_later HB1.out (hwb 12))
    have k13 : W1.cell? ⟨wb, 13, none⟩ = some (.slice q.a5 r.baths.length q.c5) := (cell_later HB1.out (hwb 13))
    have k14 : W1.cell? ⟨w.heap.size, 0, none⟩ = some (.int .i64 (nth n 0)) := (hbx 0)
    have k15 : W1.cell? ⟨w.heap.size, 1, none⟩ = some (.int .i64 (nth n 1)) := (hbx 1)
    have k16 : W1.cell? ⟨w.heap.size, 2, none⟩ = some (.int .i64 (nth n 2)) := (hbx 2)
    have k17 : W1.cell? ⟨w.heap.size, 3, none⟩ = some (.int .i64 (nth n 3)) := (hbx 3)
    have k18 : W1.cell? ⟨w.heap.size, 4, none⟩ = some (.int .i64 (nth n 4)) := (hbx 4)
    clear hbx hwb
    go_enter Tryz.func98, Tryz.ntmps98
    go_wp2
    clear hW1
    go_region_held3 (fun w' => w'.cell? ⟨wb, 0, none⟩ = some (.int .i64 r.cop.last) ∧ w'.cell? ⟨wb, 1, none⟩ = some (.int .i64 r.cop.start) ∧ w'.cell? ⟨wb, 2, none⟩ = some (.int .i64 r.cop.most) ∧ w'.cell? ⟨wb, 3, none⟩ = some (.int .i64 r.cop.per) ∧ w'.cell? ⟨wb, 4, none⟩ = some (.int .i64 r.cop.shovels) ∧ w'.cell? ⟨wb, 5, none⟩ = some (.slice q.q.a1 r.cop.coal.length q.q.c1) ∧ w'.cell? ⟨wb, 6, none⟩ = some (.slice q.q.a2 r.cop.want.length q.q.c2) ∧ w'.cell? ⟨wb, 7, none⟩ = some (.int .i64 r.cop.hlo) ∧ w'.cell? ⟨wb, 8, none⟩ = some (.int .i64 r.cop.hhi) ∧ w'.cell? ⟨wb, 9, none⟩ = some (.slice q.q.a3 r.cop.loss.length q.q.c3) ∧ w'.cell? ⟨wb, 10, none⟩ = some (.slice q.q.a4 r.cop.rds.length q.q.c4) ∧ w'.cell? ⟨wb, 11, none⟩ = some (.int .i64 r.buckets) ∧ w'.cell? ⟨wb, 12, none⟩ = some (.int .i64 r.places) ∧ w'.cell? ⟨wb, 13, none⟩ = some (.slice q.a5 r.baths.length q.c5) ∧ w'.cell? ⟨w.heap.size, 0, none⟩ = some (.int .i64 (nth n 0)) ∧ w'.cell? ⟨w.heap.size, 1, none⟩ = some (.int .i64 (nth n 1)) ∧ w'.cell? ⟨w.heap.size, 2, none⟩ = some (.int .i64 (nth n 2)) ∧ w'.cell? ⟨w.heap.size, 3, none⟩ = some (.int .i64 (nth n 3)) ∧ w'.cell? ⟨w.heap.size, 4, none⟩ = some (.int .i64 (nth n 4))) (first | assumption | go_keep) (first | (go_at_call 127; refine HC.out.mono ?_; rintro e w5 ⟨rfl, hb5⟩; have HB5 := Lib.hid hb5; have hS5 : (fun w' => w'.cell? ⟨wb, 0, none⟩ = some (.int .i64 r.cop.last) ∧ w'.cell? ⟨wb, 1, none⟩ = some (.int .i64 r.cop.start) ∧ w'.cell? ⟨wb, 2, none⟩ = some (.int .i64 r.cop.most) ∧ w'.cell? ⟨wb, 3, none⟩ = some (.int .i64 r.cop.per) ∧ w'.cell? ⟨wb, 4, none⟩ = some (.int .i64 r.cop.shovels) ∧ w'.cell? ⟨wb, 5, none⟩ = some (.slice q.q.a1 r.cop.coal.length q.q.c1) ∧ w'.cell? ⟨wb, 6, none⟩ = some (.slice q.q.a2 r.cop.want.length q.q.c2) ∧ w'.cell? ⟨wb, 7, none⟩ = some (.int .i64 r.cop.hlo) ∧ w'.cell? ⟨wb, 8, none⟩ = some (.int .i64 r.cop.hhi) ∧ w'.cell? ⟨wb, 9, none⟩ = some (.slice q.q.a3 r.cop.loss.length q.q.c3) ∧ w'.cell? ⟨wb, 10, none⟩ = some (.slice q.q.a4 r.cop.rds.length q.q.c4) ∧ w'.cell? ⟨wb, 11, none⟩ = some (.int .i64 r.buckets) ∧ w'.cell? ⟨wb, 12, none⟩ = some (.int .i64 r.places) ∧ w'.cell? ⟨wb, 13, none⟩ = some (.slice q.a5 r.baths.length q.c5) ∧ w'.cell? ⟨w.heap.size, 0, none⟩ = some (.int .i64 (nth n 0)) ∧ w'.cell? ⟨w.heap.size, 1, none⟩ = some (.int .i64 (nth n 1)) ∧ w'.cell? ⟨w.heap.size, 2, none⟩ = some (.int .i64 (nth n 2)) ∧ w'.cell? ⟨w.heap.size, 3, none⟩ = some (.int .i64 (nth n 3)) ∧ w'.cell? ⟨w.heap.size, 4, none⟩ = some (.int .i64 (nth n 4))) w5 := ⟨cell_later hb5 (w := W1.drew) k0, cell_later hb5 (w := W1.drew) k1, cell_later hb5 (w := W1.drew) k2, cell_later hb5 (w := W1.drew) k3, cell_later hb5 (w := W1.drew) k4, cell_later hb5 (w := W1.drew) k5, cell_later hb5 (w := W1.drew) k6, cell_later hb5 (w := W1.drew) k7, cell_later hb5 (w := W1.drew) k8, cell_later hb5 (w := W1.drew) k9, cell_later hb5 (w := W1.drew) k10, cell_later hb5 (w := W1.drew) k11, cell_later hb5 (w := W1.drew) k12, cell_later hb5 (w := W1.drew) k13, cell_later hb5 (w := W1.drew) k14, cell_later hb5 (w := W1.drew) k15, cell_later hb5 (w := W1.drew) k16, cell_later hb5 (w := W1.drew) k17, cell_later hb5 (w := W1.drew) k18⟩; dsimp only at hS5; have HS5' := Lib.hid hS5; have HL5 : Hid (wb < w5.heap.size ∧ wb ∉ [m] ∧ w.heap.size < w5.heap.size ∧ w.heap.size ∉ [m]) := (by have h1 := hb5.size; have h2 := HS1.out; have h3 := HLT.out; have h4 := HWBM.out; have h5 : W1.heap.size ≤ w5.heap.size := h1; refine ⟨?_, ?_, ?_, ?_⟩ <;> (try simp only [List.mem_singleton]) <;> omega); clear hb5) | (go_at_call 120; refine (keepsR_c r q B wb m n _ (HW.out.up (bl_tr (bl_dr HB1.out) HB5.out)) HN.out HCT.out).mono ?_; rintro e w6 ⟨rfl, hbw6, he6⟩; have HBW6 := Lib.hid hbw6; have HE6 := Lib.hid he6; have hS6 : (fun w' => w'.cell? ⟨wb, 0, none⟩ = some (.int .i64 r.cop.last) ∧ w'.cell? ⟨wb, 1, none⟩ = some (.int .i64 r.cop.start) ∧ w'.cell? ⟨wb, 2, none⟩ = some (.int .i64 r.cop.most) ∧ w'.cell? ⟨wb, 3, none⟩ = some (.int .i64 r.cop.per) ∧ w'.cell? ⟨wb, 4, none⟩ = some (.int .i64 r.cop.shovels) ∧ w'.cell? ⟨wb, 5, none⟩ = some (.slice q.q.a1 r.cop.coal.length q.q.c1) ∧ w'.cell? ⟨wb, 6, none⟩ = some (.slice q.q.a2 r.cop.want.length q.q.c2) ∧ w'.cell? ⟨wb, 7, none⟩ = some (.int .i64 r.cop.hlo) ∧ w'.cell? ⟨wb, 8, none⟩ = some (.int .i64 r.cop.hhi) ∧ w'.cell? ⟨wb, 9, none⟩ = some (.slice q.q.a3 r.cop.loss.length q.q.c3) ∧ w'.cell? ⟨wb, 10, none⟩ = some (.slice q.q.a4 r.cop.rds.length q.q.c4) ∧ w'.cell? ⟨wb, 11, none⟩ = some (.int .i64 r.buckets) ∧ w'.cell? ⟨wb, 12, none⟩ = some (.int .i64 r.places) ∧ w'.cell? ⟨wb, 13, none⟩ = some (.slice q.a5 r.baths.length q.c5) ∧ w'.cell? ⟨w.heap.size, 0, none⟩ = some (.int .i64 (nth n 0)) ∧ w'.cell? ⟨w.heap.size, 1, none⟩ = some (.int .i64 (nth n 1)) ∧ w'.cell? ⟨w.heap.size, 2, none⟩ = some (.int .i64 (nth n 2)) ∧ w'.cell? ⟨w.heap.size, 3, none⟩ = some (.int .i64 (nth n 3)) ∧ w'.cell? ⟨w.heap.size, 4, none⟩ = some (.int .i64 (nth n 4))) w6 := ⟨(HE6.out.cell (w := w5) HL5.out.1 HL5.out.2.1).trans HS5'.out.1, (HE6.out.cell (w := w5) HL5.out.1 HL5.out.2.1).trans HS5'.out.2.1, (HE6.out.cell (w := w5) HL5.out.1 HL5.out.2.1).trans HS5'.out.2.2.1, (HE6.out.cell (w := w5) HL5.out.1 HL5.out.2.1).trans HS5'.out.2.2.2.1, (HE6.out.cell (w := w5) HL5.out.1 HL5.out.2.1).trans HS5'.out.2.2.2.2.1, (HE6.out.cell (w := w5) HL5.out.1 HL5.out.2.1).trans HS5'.out.2.2.2.2.2.1, (HE6.out.cell (w := w5) HL5.out.1 HL5.out.2.1).trans HS5'.out.2.2.2.2.2.2.1, (HE6.out.cell (w := w5) HL5.out.1 HL5.out.2.1).trans HS5'.out.2.2.2.2.2.2.2.1, (HE6.out.cell (w := w5) HL5.out.1 HL5.out.2.1).trans HS5'.out.2.2.2.2.2.2.2.2.1, (HE6.out.cell (w := w5) HL5.out.1 HL5.out.2.1).trans HS5'.out.2.2.2.2.2.2.2.2.2.1, (HE6.out.cell (w := w5) HL5.out.1 HL5.out.2.1).trans HS5'.out.2.2.2.2.2.2.2.2.2.2.1, (HE6.out.cell (w := w5) HL5.out.1 HL5.out.2.1).trans HS5'.out.2.2.2.2.2.2.2.2.2.2.2.1, (HE6.out.cell (w := w5) HL5.out.1 HL5.out.2.1).trans HS5'.out.2.2.2.2.2.2.2.2.2.2.2.2.1, (HE6.out.cell (w := w5) HL5.out.1 HL5.out.2.1).trans HS5'.out.2.2.2.2.2.2.2.2.2.2.2.2.2.1, (HE6.out.cell (w := w5) HL5.out.2.2.1 HL5.out.2.2.2).trans HS5'.out.2.2.2.2.2.2.2.2.2.2.2.2.2.2.1, (HE6.out.cell (w := w5) HL5.out.2.2.1 HL5.out.2.2.2).trans HS5'.out.2.2.2.2.2.2.2.2.2.2.2.2.2.2.2.1, (HE6.out.cell (w := w5) HL5.out.2.2.1 HL5.out.2.2.2).trans HS5'.out.2.2.2.2.2.2.2.2.2.2.2.2.2.2.2.2.1, (HE6.out.cell (w := w5) HL5.out.2.2.1 HL5.out.2.2.2).trans HS5'.out.2.2.2.2.2.2.2.2.2.2.2.2.2.2.2.2.2.1, (HE6.out.cell (w := w5) HL5.out.2.2.1 HL5.out.2.2.2).trans HS5'.out.2.2.2.2.2.2.2.2.2.2.2.2.2.2.2.2.2.2⟩; dsimp only at hS6; clear hbw6 he6 hS5))
    all_goals (
      clear hS6
      go_wp2
      go_ret
      exact ⟨by rw [HF.out]; rfl, HBW6.out, (Ext.of_below (bl_tr (bl_dr HB1.out) HB5.out)).trans HE6.out⟩)
end Go.Proofs.YtpgnplmjfhdncaaGreat
namespace Go.Proofs.YtpgnplmjfhdncaaGreat
open Go.RowKit
set_option linter.unusedVariables false
def inB (r : Rm) (plan : List Int) (j : Nat) : Bool := within (nth plan j) (p1 r.baths j) (p2 r.baths j)
/-- Whether a list is a plan. -/
def areB (r : Rm) (plan : List Int) : Bool := decide (plan.length = r.baths.length) && allN (inB r plan) r.baths.length
set_option maxRecDepth 100000 in
set_option maxHeartbeats 4000000 in
theorem are_c (r : Rm) (q : RA) (plan : List Int) (a1 : Option Addr) (c1 : Nat) (w : World) (hq : RoomAt w w.heap.size r q) (hn : r.baths.length ≤ 5) (hpl : plan.length ≤ 1000000000) (hx : IntsAt w w.heap.size a1 plan) :
    Calls Tryz.prog 125 #[roomV r q, .slice a1 plan.length c1] w fun e w' => e = .returned (.bool (areB r plan)) ∧ Below w.heap.size w w' := by
  have HQ := Lib.hid hq
  have HX := Lib.hid hx
  clear hq hx
  cases hl : decide (plan.length = r.baths.length) with
  | false =>
    have HF : Hid (areB r plan = false) := by unfold Hid; simp only [areB, hl, Bool.false_and]
    have hl2 : ((plan.length : Int) == (r.baths.length : Int)) = false := by simp at hl ⊢; omega
    clear hl
    go_enter Tryz.func125, Tryz.ntmps125
    go_wp2
    go_ret
    exact ⟨by rw [HF.out]; rfl, bl_al (Below.refl _ _) _⟩
  | true =>
    have HF : Hid (areB r plan = allN (inB r plan) r.baths.length) := by unfold Hid; simp only [areB, hl, Bool.true_and]
    have hlen : plan.length = r.baths.length := by simpa using hl
    have HLEN := Lib.hid hlen
    have hl2 : ((plan.length : Int) == (r.baths.length : Int)) = true := by simp [hlen]
    clear hl hlen
    obtain ⟨qq, a5, c5⟩ := q
    dsimp only [roomV]
    go_enter Tryz.func125, Tryz.ntmps125
    go_wp2
    clear hl2
    go_loopw [16] (fun i wr => ∃ j : Nat, j ≤ r.baths.length ∧ i = .int .i64 j ∧ idxN (fun j => !inB r plan j) 0 r.baths.length = idxN (fun j => !inB r plan j) j (r.baths.length - j) ∧ Below w.heap.size w wr) (fun i _ => r.baths.length - (intOf i).toNat)
    case atStart => exact ⟨0, Nat.zero_le _, rfl, rfl, bl_al (Below.refl _ _) _⟩
    case round =>
      obtain ⟨j, hj, rfl, hi, hb⟩ := hrel
      have HI := Lib.hid hi
      have HB := Lib.hid hb
      clear hi hb
      by_cases hlt : j < r.baths.length
      · obtain ⟨b, o, hae, hbl, hcell⟩ := (HQ.out.baths.below HB.out).at_ (by omega)
        obtain ⟨hc1, hc2⟩ := hcell j hlt
        obtain ⟨b2, o2, rfl⟩ := HX.out.some_ (by have := HLEN.out; omega)
        have hc3 := (HX.out.below HB.out).get j (by have := HLEN.out; omega)
        dsimp only at hae
        subst hae
        have hj1 : (j : Int) < (r.baths.length : Int) := by omega
        have hj2 : (j : Int) < (plan.length : Int) := by have := HLEN.out; omega
        clear hcell hbl
        cases hk : inB r plan j with
        | false =>
          have hi := idxN_hit hlt HI.out (by simp [hk])
          have HF2 : Hid (areB r plan = false) := by unfold Hid; rw [HF.out]; unfold allN anyN; simp [hi]
          have HK : Hid (within (nth plan j) (p1 r.baths j) (p2 r.baths j) = false) := hk
          clear hk hi
          go_wp2
          refine wp_region_plus (by kernel_rfl) ?_
          repeat (go_big_quiet_step ((go_at_call 87; exact Calls.pl ((within9_c _ _ _ _).mono fun e w' ⟨he, hw⟩ => ⟨he, by subst hw; exact Below.refl _ _⟩))))
          refine wpQuiet_nil ?_
          rintro _ ⟨d, rfl⟩
          rw [HK.out]
          go_wp2
          go_ret
          exact ⟨by rw [HF2.out]; rfl, by repeat (first | exact HB.out | refine bl_al ?_ _ | refine bl_pl ?_ _ | refine bl_dr ?_)⟩
        | true =>
          have hi := idxN_step hlt HI.out (by simp [hk])
          have HJ := Lib.hid hi
          have HK : Hid (within (nth plan j) (p1 r.baths j) (p2 r.baths j) = true) := hk
          clear hk hi
          go_wp2
          refine wp_region_plus (by kernel_rfl) ?_
          repeat (go_big_quiet_step ((go_at_call 87; exact Calls.pl ((within9_c _ _ _ _).mono fun e w' ⟨he, hw⟩ => ⟨he, by subst hw; exact Below.refl _ _⟩))))
          refine wpQuiet_nil ?_
          rintro _ ⟨d', rfl⟩
          rw [HK.out]
          go_wp2
          go_roundw
          case rel => exact ⟨j + 1, by omega, by go_num, HJ.out, by repeat (first | exact HB.out | refine bl_al ?_ _ | refine bl_pl ?_ _ | refine bl_dr ?_)⟩
          case measure => simp [intOf]; omega
      · obtain rfl : j = r.baths.length := by omega
        have hi := idxN_end HI.out
        have HF2 : Hid (areB r plan = true) := by unfold Hid; rw [HF.out]; unfold allN; rw [idxN_nott hi]; rfl
        clear hi
        go_wp2
        go_ret
        exact ⟨by rw [HF2.out]; rfl, HB.out⟩
def cntI (plan : List Int) (j h : Nat) : Int := (((plan.take j).filter (fun x => x == (h : Int))).length : Int)
def countL (plan : List Int) (j : Nat) : List Int := rowI (cntI plan j) 5
theorem nvs_set (xs : List Int) (hl : xs.length = 5) (j : Nat) (hj : j < 5) (v : Int) : (nvs xs).setIfInBounds j (.int .i64 v) = nvs (xs.set j v) := by
  match xs, hl with
  | [a, b, c, d, e], _ =>
    match j, hj with
    | 0, _ => rfl
    | 1, _ => rfl
    | 2, _ => rfl
    | 3, _ => rfl
    | 4, _ => rfl
theorem cntI_step (plan : List Int) (j h : Nat) (hj : j < plan.length) : cntI plan (j + 1) h = cntI plan j h + (if nth plan j = (h : Int) then 1 else 0) := by
  unfold cntI
  rw [List.take_add_one]
  have : plan[j]?.toList = [nth plan j] := by simp [nth, hj]
  rw [this, List.filter_append, List.length_append]
  by_cases h : nth plan j = (h : Int) <;> simp [h]
theorem ext_nth {xs ys : List Int} (hl : xs.length = ys.length) (h : ∀ k, k < xs.length → nth xs k = nth ys k) : xs = ys := by
  apply List.ext_getElem hl
  intro k h1 h2
  have := h k h1
  simpa [nth, List.getElem?_eq_getElem h1, List.getElem?_eq_getElem h2] using this
theorem countL_step (plan : List Int) (j m : Nat) (hj : j < plan.length) (hm : nth plan j = (m : Int)) (hm5 : m < 5) : countL plan (j + 1) = (countL plan j).set m (nth (countL plan j) m + 1) := by
  refine ext_nth (by simp [countL, rowI_len]) (fun k h1 => ?_)
  · have hk5 : k < 5 := by simpa [countL, rowI_len] using h1
    rw [nth_set _ _ _ _ (by simp [countL, rowI_len]; exact hm5)]
    unfold countL
    rw [nth_rowI _ hk5, cntI_step _ _ _ hj, hm]
    by_cases he : k = m
    · subst he
      rw [if_pos rfl, if_pos rfl, nth_rowI _ hk5]
    · rw [if_neg (by omega), if_neg he, nth_rowI _ hk5]
      omega
theorem cntI_le (plan : List Int) (j h : Nat) : 0 ≤ cntI plan j h ∧ cntI plan j h ≤ plan.length := by
  unfold cntI
  have h1 := List.length_filter_le (fun x => x == (h : Int)) (plan.take j)
  have h2 := List.length_take_le j plan
  have h3 : (plan.take j).length ≤ plan.length := by simp; omega
  omega
set_option maxRecDepth 100000 in
set_option maxHeartbeats 4000000 in
theorem counted_c (plan : List Int) (a1 : Option Addr) (c1 : Nat) (w : World) (hx : IntsAt w w.heap.size a1 plan) (hn : plan.length ≤ 100) (hb : ∀ j, j < plan.length → 0 ≤ nth plan j ∧ nth plan j ≤ 4) :
    Calls Tryz.prog 126 #[.slice a1 plan.length c1] w fun e w' => e = .returned (nv (countL plan plan.length)) ∧ Below w.heap.size w w' := by
  have HX := Lib.hid hx
  have HBD := Lib.hid hb
  clear hx hb
  go_enter Tryz.func126, Tryz.ntmps126
  go_wp2
  go_loopw [7] (fun i wr => ∃ j : Nat, j ≤ plan.length ∧ i = .int .i64 j ∧ Below w.heap.size w wr ∧ wr.heap[w.heap.size]? = some (.cells (nvs (countL plan j)) 115 (0, 0))) (fun i _ => plan.length - (intOf i).toNat)
  case atStart => exact ⟨0, Nat.zero_le _, rfl, bl_al (Below.refl _ _) _, World.alloc_heap_new w _⟩
  case round =>
    obtain ⟨j, hj, rfl, hb, hh⟩ := hrel
    have HB := Lib.hid hb
    have HH := Lib.hid hh
    clear hb
    by_cases hlt : j < plan.length
    · obtain ⟨b, o, rfl⟩ := HX.out.some_ (by omega)
      have hc := (HX.out.below HB.out).get j hlt
      have hbd := HBD.out j hlt
      obtain ⟨m, hm⟩ : ∃ m : Nat, nth plan j = m := ⟨(nth plan j).toNat, by omega⟩
      have hm5 : m < 5 := by omega
      have HM := Lib.hid hm
      rw [hm] at hc
      have hcm : wr.cell? ⟨w.heap.size, m, none⟩ = some (.int .i64 (nth (countL plan j) m)) := by
        simp only [World.cell?, hh]
        exact nvs_at _ m hm5
      have hfm : wr.frozen? ⟨w.heap.size, m, none⟩ = false := by simp [World.frozen?, hh]
      have hv : 0 ≤ nth (countL plan j) m ∧ nth (countL plan j) m ≤ 100 := by
        rw [countL, nth_rowI _ hm5]
        have := cntI_le plan j m
        omega
      have hj1 : (j : Int) < (plan.length : Int) := by omega
      have hm51 : (m : Int) < 5 := by omega
      clear hh hm hbd
      go_wp2
      go_roundw
      case rel =>
        refine ⟨j + 1, by omega, by go_num, bl_st HB.out (Nat.le_refl _) _, ?_⟩
        rw [heap_setCell_same _ _ m _ _ _ HH.out, nvs_set _ (by simp [countL, rowI_len]) m hm5, countL_step plan j m hlt HM.out hm5]
      case measure => simp [intOf]; omega
    · obtain rfl : j = plan.length := by omega
      have hb0 : ∀ o, wr.cell? ⟨w.heap.size, o, none⟩ = (nvs (countL plan plan.length))[o]? := fun o => by simp [World.cell?, hh]
      have hf0 : ∀ o, wr.frozen? ⟨w.heap.size, o, none⟩ = false := fun o => by simp [World.frozen?, hh]
      have HRES := Lib.hid (heap_setCell_same _ _ 4 _ _ (.int .i64 (nth (countL plan plan.length) 4)) (heap_setCell_same _ _ 3 _ _ (.int .i64 (nth (countL plan plan.length) 3)) (heap_setCell_same _ _ 2 _ _ (.int .i64 (nth (countL plan plan.length) 2)) (heap_setCell_same _ _ 1 _ _ (.int .i64 (nth (countL plan plan.length) 1)) (heap_setCell_same _ _ 0 _ _ (.int .i64 (nth (countL plan plan.length) 0)) hh)))))
      clear hh
      go_wp2
      exact bodyPost_ret (results_cell_row Tryz.results126 _ _ w.heap.size 115 _ (0, 0) _ (by rfl) HRES.out Tryz.underlying115 rfl (by kernel_rfl)) rfl ⟨rfl, bl_st (bl_st (bl_st (bl_st (bl_st HB.out (Nat.le_refl _) _) (Nat.le_refl _) _) (Nat.le_refl _) _) (Nat.le_refl _) _) (Nat.le_refl _) _⟩
end Go.Proofs.YtpgnplmjfhdncaaGreat
namespace Go.Proofs.YtpgnplmjfhdncaaGreat
open Go.RowKit
set_option linter.unusedVariables false
theorem results_tct {P : Program} {fn : Func} {s p u : Tmp} {ty : TypeId} (h : fn.results = #[.tmp s, .cell p ty, .tmp u]) (tmps : Array Value) (w : World) (g : Nat) (t : TypeId) (cs : Array Value) (fr : Nat × Nat) (d : TypeDesc)
    (hp : tmps.getD p undef = .pointer (some ⟨g, 0, none⟩)) (hg : w.heap[g]? = some (.cells cs t fr))
    (hu : P.underlying ty = some d) (hd : (match d with | .struct _ | .array _ _ => true | _ => false) = true) (hi : (P.info? ty).map (·.size) = some cs.size) :
    (results fn tmps).run P w = .ok (.tuple #[tmps.getD s undef, .agg cs, tmps.getD u undef]) w := by
  have hp' : tmps[p]?.getD undef = .pointer (some ⟨g, 0, none⟩) := by simpa using hp
  simp [results, h, hp', asAddr, run_loadVar_row w g t ty cs fr d hg hu hd hi]
def planErr (r : Rm) (plan : List Int) (fine : Bool) : Int := if roomErr r ≠ 0 then roomErr r else if (areB r plan && fine) = false then 2 else if canB r (countL plan plan.length) = false then 9 else 0
theorem zero5 (w : World) (g : Nat) (cs : Array Value) (hl : cs.size = 5) (hg : w.heap[g]? = some (.cells cs 115 (0, 0))) (v0 v1 v2 v3 v4 : Value) :
    (((((w.setCell ⟨g, 0, none⟩ v0).setCell ⟨g, 1, none⟩ v1).setCell ⟨g, 2, none⟩ v2).setCell ⟨g, 3, none⟩ v3).setCell ⟨g, 4, none⟩ v4).heap[g]? = some (.cells #[v0, v1, v2, v3, v4] 115 (0, 0)) := by
  obtain ⟨a, b, c, d, e, rfl⟩ : ∃ a b c d e, cs = #[a, b, c, d, e] := by
    obtain ⟨l⟩ := cs
    have hl' : l.length = 5 := by simpa using hl
    match l, hl' with
    | [a, b, c, d, e], _ => exact ⟨a, b, c, d, e, rfl⟩
  exact heap_setCell_same _ g 4 _ 115 v4 (heap_setCell_same _ g 3 _ 115 v3 (heap_setCell_same _ g 2 _ 115 v2 (heap_setCell_same _ g 1 _ 115 v1 (heap_setCell_same w g 0 _ 115 v0 hg))))
set_option maxRecDepth 100000 in
set_option maxHeartbeats 4000000 in
theorem planned_bad (r : Rm) (q : RA) (plan : List Int) (a1 : Option Addr) (c1 : Nat) (fine : Bool) (w : World) (hq : RoomAt w w.heap.size r q) (hsm : Small r.cop) (he : roomErr r ≠ 0) :
    Calls Tryz.prog 83 #[roomV r q, .slice a1 plan.length c1, .bool fine] w fun e w' => e = .returned (.tuple #[.pointer none, nv [], .int .i64 (roomErr r)]) ∧ Below w.heap.size w w' := by
  have HQ := Lib.hid hq
  have HE := Lib.hid he
  have hne : (roomErr r == 0) = false := by simpa using he
  clear hq he
  go_enter Tryz.func83, Tryz.ntmps83
  go_wp2_with (go_at_call 89; refine (askedR_bad r q _ (HQ.out.up (bl_al (bl_al (Below.refl _ _) _) _)) hsm HE.out).mono ?_; rintro e w1 ⟨rfl, hb⟩; have hz1 : w1.heap[w.heap.size + 1]? = some (.cells (nvs []) 115 (0, 0)) := ((hb.block _ (by simp)).trans (by have := World.alloc_heap_new (w.alloc (.cells (roomCs r q) 44)) (.cells (nvs []) 115); rw [World.size_alloc] at this; exact this)); have hf1 : ∀ o, w1.frozen? ⟨w.heap.size + 1, o, none⟩ = false := (fun o => by simp [World.frozen?, hz1]); have hc1 : ∀ o, w1.cell? ⟨w.heap.size + 1, o, none⟩ = (nvs [])[o]? := (fun o => by simp [World.cell?, hz1]); have HZ1 := Lib.hid hz1; have HB := Lib.hid (bl_tr (bl_al (bl_al (Below.refl w.heap.size w) _) _) hb); clear hb hz1)
  exact bodyPost_ret (results_tct Tryz.results83 _ _ (w.heap.size + 1) 115 _ (0, 0) _ (by rfl) (zero5 w1 _ _ rfl HZ1.out _ _ _ _ _) Tryz.underlying115 rfl (by kernel_rfl)) rfl ⟨rfl, bl_st (bl_st (bl_st (bl_st (bl_st HB.out (by simp) _) (by simp) _) (by simp) _) (by simp) _) (by simp) _⟩
end Go.Proofs.YtpgnplmjfhdncaaGreat
namespace Go.Proofs.YtpgnplmjfhdncaaGreat
open Go.RowKit
set_option linter.unusedVariables false
set_option maxRecDepth 100000 in
set_option maxHeartbeats 4000000 in
theorem planned_na (r : Rm) (q : RA) (plan : List Int) (a1 : Option Addr) (c1 : Nat) (fine : Bool) (w : World) (hq : RoomAt w w.heap.size r q) (he : roomErr r = 0) (hpl : plan.length ≤ 1000000000) (hx : IntsAt w w.heap.size a1 plan) (har : areB r plan = false) :
    Calls Tryz.prog 83 #[roomV r q, .slice a1 plan.length c1, .bool fine] w fun e w' => e = .returned (.tuple #[.pointer none, nv [], .int .i64 2]) ∧ Below w.heap.size w w' := by
  have HO := Lib.hid (room_ok he)
  have HQ := Lib.hid hq
  have HE := Lib.hid he
  have HX := Lib.hid hx
  have HPL := Lib.hid hpl
  clear hq he hx hpl
  have HAR := Lib.hid har
  clear har
  go_enter Tryz.func83, Tryz.ntmps83
  go_wp2_with (first | (go_at_call 89; refine (askedR_ok r q _ (HQ.out.up (bl_al (bl_al (Below.refl _ _) _) _)) HO.out.cop.small HE.out).mono ?_; rintro e w1 ⟨m, rfl, hm, hmp, hcl, hb⟩; have hz1 : w1.heap[w.heap.size + 1]? = some (.cells (nvs []) 115 (0, 0)) := ((hb.block _ (by simp)).trans (by have := World.alloc_heap_new (w.alloc (.cells (roomCs r q) 44)) (.cells (nvs []) 115); rw [World.size_alloc] at this; exact this)); have HZ1 := Lib.hid hz1; have HX1 : Hid (Box w1 w.heap.size (roomCs r q)) := (((Box.new w (roomCs r q) 44 (0, 0)).al (by simp) _).bl (by simp) hb); have hbx := HX1.out; unfold Box roomCs at hbx; have HB := Lib.hid (bl_tr (bl_al (bl_al (Below.refl w.heap.size w) _) _) hb); have HMP := Lib.hid hmp; have HCL := Lib.hid hcl; have HM : Hid (w.heap.size + 2 < m) := (by simp at hm; unfold Hid; omega); clear hb hz1 hm hmp hcl) | (go_at_call 125; refine (are_c r q plan a1 c1 _ (HQ.out.up HB.out) HO.out.n5 HPL.out (HX.out.up HB.out)).mono ?_; clear hbx; rintro e w2 ⟨rfl, hb2⟩; have hz2 := (hb2.block _ (Array.getElem?_eq_some_iff.1 HZ1.out).1).trans HZ1.out; have HZ2 := Lib.hid hz2; have hfw2 : ∀ o, w2.frozen? ⟨w.heap.size + 1, o, none⟩ = false := (fun o => by simp [World.frozen?, hz2]); have hcw2 : ∀ o, w2.cell? ⟨w.heap.size + 1, o, none⟩ = (nvs [])[o]? := (fun o => by simp [World.cell?, hz2]); have HX2 : Hid (Box w2 w.heap.size (roomCs r q)) := HX1.out.bl (by simp) hb2; have hbx := HX2.out; unfold Box roomCs at hbx; have HB2 := Lib.hid (bl_tr HB.out hb2); clear hb2 hz2; rw [HAR.out]))
  exact bodyPost_ret (results_tct Tryz.results83 _ _ (w.heap.size + 1) 115 _ (0, 0) _ (by rfl) (zero5 _ _ _ rfl HZ2.out _ _ _ _ _) Tryz.underlying115 rfl (by kernel_rfl)) rfl ⟨rfl, bl_st (bl_st (bl_st (bl_st (bl_st HB2.out (by simp) _) (by simp) _) (by simp) _) (by simp) _) (by simp) _⟩
set_option maxRecDepth 100000 in
set_option maxHeartbeats 4000000 in
theorem planned_nf (r : Rm) (q : RA) (plan : List Int) (a1 : Option Addr) (c1 : Nat) (w : World) (hq : RoomAt w w.heap.size r q) (he : roomErr r = 0) (hpl : plan.length ≤ 1000000000) (hx : IntsAt w w.heap.size a1 plan) (har : areB r plan = true) :
    Calls Tryz.prog 83 #[roomV r q, .slice a1 plan.length c1, .bool false] w fun e w' => e = .returned (.tuple #[.pointer none, nv [], .int .i64 2]) ∧ Below w.heap.size w w' := by
  have HO := Lib.hid (room_ok he)
  have HQ := Lib.hid hq
  have HE := Lib.hid he
  have HX := Lib.hid hx
  have HPL := Lib.hid hpl
  clear hq he hx hpl
  have HAR := Lib.hid har
  clear har
  go_enter Tryz.func83, Tryz.ntmps83
  go_wp2_with (first | (go_at_call 89; refine (askedR_ok r q _ (HQ.out.up (bl_al (bl_al (Below.refl _ _) _) _)) HO.out.cop.small HE.out).mono ?_; rintro e w1 ⟨m, rfl, hm, hmp, hcl, hb⟩; have hz1 : w1.heap[w.heap.size + 1]? = some (.cells (nvs []) 115 (0, 0)) := ((hb.block _ (by simp)).trans (by have := World.alloc_heap_new (w.alloc (.cells (roomCs r q) 44)) (.cells (nvs []) 115); rw [World.size_alloc] at this; exact this)); have HZ1 := Lib.hid hz1; have HX1 : Hid (Box w1 w.heap.size (roomCs r q)) := (((Box.new w (roomCs r q) 44 (0, 0)).al (by simp) _).bl (by simp) hb); have hbx := HX1.out; unfold Box roomCs at hbx; have HB := Lib.hid (bl_tr (bl_al (bl_al (Below.refl w.heap.size w) _) _) hb); have HMP := Lib.hid hmp; have HCL := Lib.hid hcl; have HM : Hid (w.heap.size + 2 < m) := (by simp at hm; unfold Hid; omega); clear hb hz1 hm hmp hcl) | (go_at_call 125; refine (are_c r q plan a1 c1 _ (HQ.out.up HB.out) HO.out.n5 HPL.out (HX.out.up HB.out)).mono ?_; clear hbx; rintro e w2 ⟨rfl, hb2⟩; have hz2 := (hb2.block _ (Array.getElem?_eq_some_iff.1 HZ1.out).1).trans HZ1.out; have HZ2 := Lib.hid hz2; have hfw2 : ∀ o, w2.frozen? ⟨w.heap.size + 1, o, none⟩ = false := (fun o => by simp [World.frozen?, hz2]); have hcw2 : ∀ o, w2.cell? ⟨w.heap.size + 1, o, none⟩ = (nvs [])[o]? := (fun o => by simp [World.cell?, hz2]); have HX2 : Hid (Box w2 w.heap.size (roomCs r q)) := HX1.out.bl (by simp) hb2; have hbx := HX2.out; unfold Box roomCs at hbx; have HB2 := Lib.hid (bl_tr HB.out hb2); clear hb2 hz2; rw [HAR.out]))
  exact bodyPost_ret (results_tct Tryz.results83 _ _ (w.heap.size + 1) 115 _ (0, 0) _ (by rfl) (zero5 _ _ _ rfl HZ2.out _ _ _ _ _) Tryz.underlying115 rfl (by kernel_rfl)) rfl ⟨rfl, bl_st (bl_st (bl_st (bl_st (bl_st HB2.out (by simp) _) (by simp) _) (by simp) _) (by simp) _) (by simp) _⟩
end Go.Proofs.YtpgnplmjfhdncaaGreat
namespace Go.Proofs.YtpgnplmjfhdncaaGreat
open Go.RowKit
set_option linter.unusedVariables false
set_option maxRecDepth 100000 in
set_option maxHeartbeats 4000000 in
theorem planned_9 (r : Rm) (q : RA) (plan : List Int) (a1 : Option Addr) (c1 : Nat) (w : World) (hq : RoomAt w w.heap.size r q) (he : roomErr r = 0) (hpl : plan.length ≤ 1000000000) (hx : IntsAt w w.heap.size a1 plan) (har : areB r plan = true) (hcb : canB r (countL plan plan.length) = false) :
    Calls Tryz.prog 83 #[roomV r q, .slice a1 plan.length c1, .bool true] w fun e w' => e = .returned (.tuple #[.pointer none, nv [], .int .i64 9]) ∧ Below w.heap.size w w' := by
  have HO := Lib.hid (room_ok he)
  have HQ := Lib.hid hq
  have HE := Lib.hid he
  have HX := Lib.hid hx
  have HPL := Lib.hid hpl
  clear hq he hx hpl
  have HAR := Lib.hid har
  have HCB := Lib.hid hcb
  have HLN : Hid (plan.length = r.baths.length) := by unfold Hid; simp only [areB, Bool.and_eq_true, decide_eq_true_eq] at har; exact har.1
  have HPB : Hid (∀ j, j < plan.length → 0 ≤ nth plan j ∧ nth plan j ≤ 4) := fun j hj => by
    simp only [areB, Bool.and_eq_true, decide_eq_true_eq, allN_iff, inB, within_iff] at har
    have h1 := har.2 j (by omega)
    have h2 := HO.out.bs j (by omega)
    have h3 := HO.out.cop.l4
    omega
  have HCN : Hid (∀ j, 0 ≤ nth (countL plan plan.length) j) := fun j => by
    by_cases hj : j < 5
    · rw [countL, nth_rowI _ hj]; exact (cntI_le plan _ _).1
    · rw [nth_out _ _ (by rw [countL, rowI_len]; omega)]; omega
  clear har hcb
  go_enter Tryz.func83, Tryz.ntmps83
  go_wp2_with (first | (go_at_call 89; refine (askedR_ok r q _ (HQ.out.up (bl_al (bl_al (Below.refl _ _) _) _)) HO.out.cop.small HE.out).mono ?_; rintro e w1 ⟨m, rfl, hm, hmp, hcl, hb⟩; have hz1 : w1.heap[w.heap.size + 1]? = some (.cells (nvs []) 115 (0, 0)) := ((hb.block _ (by simp)).trans (by have := World.alloc_heap_new (w.alloc (.cells (roomCs r q) 44)) (.cells (nvs []) 115); rw [World.size_alloc] at this; exact this)); have HZ1 := Lib.hid hz1; have HX1 : Hid (Box w1 w.heap.size (roomCs r q)) := (((Box.new w (roomCs r q) 44 (0, 0)).al (by simp) _).bl (by simp) hb); have hbx := HX1.out; unfold Box roomCs at hbx; have HB := Lib.hid (bl_tr (bl_al (bl_al (Below.refl w.heap.size w) _) _) hb); have HMP := Lib.hid hmp; have HCL := Lib.hid hcl; have HM : Hid (w.heap.size + 2 < m) := (by simp at hm; unfold Hid; omega); clear hb hz1 hm hmp hcl) | (go_at_call 125; refine (are_c r q plan a1 c1 _ (HQ.out.up HB.out) HO.out.n5 HPL.out (HX.out.up HB.out)).mono ?_; clear hbx; rintro e w2 ⟨rfl, hb2⟩; have hz2 := (hb2.block _ (Array.getElem?_eq_some_iff.1 HZ1.out).1).trans HZ1.out; have HZ2 := Lib.hid hz2; have HX2 : Hid (Box w2 w.heap.size (roomCs r q)) := HX1.out.bl (by simp) hb2; have hbx := HX2.out; unfold Box roomCs at hbx; have HB2 := Lib.hid (bl_tr HB.out hb2); have HC2 := Lib.hid hb2; clear hb2 hz2; rw [HAR.out]) | (go_at_call 126; refine (counted_c plan a1 c1 _ (HX.out.up HB2.out) (by have := HLN.out; have := HO.out.n5; omega) HPB.out).mono ?_; clear hbx; rintro e w3 ⟨rfl, hb3⟩; have hz3 := (hb3.block _ (Array.getElem?_eq_some_iff.1 HZ2.out).1).trans HZ2.out; have HZ3 := Lib.hid hz3; have HX3 : Hid (Box w3 w.heap.size (roomCs r q)) := HX2.out.bl (by simp) hb3; have hbx := HX3.out; unfold Box roomCs at hbx; have HB3 := Lib.hid (bl_tr HB2.out hb3); have HC3 := Lib.hid (bl_tr HC2.out hb3); clear hb3 hz3) | (go_at_call 127; refine (possible_c r q (countL plan plan.length) _ (HQ.out.up (bl_al HB3.out _)) HO.out.fine HCN.out).mono ?_; clear hbx; rintro e w4 ⟨rfl, hb4⟩; have hz4 := (hb4.block _ (by have := (Array.getElem?_eq_some_iff.1 HZ3.out).1; simp; omega)).trans (heap_al HZ3.out (.cells (nvs (countL plan plan.length)) 115)); have HZ4 := Lib.hid hz4; have hfw4 : ∀ o, w4.frozen? ⟨w.heap.size + 1, o, none⟩ = false := (fun o => by simp [World.frozen?, hz4]); have hcw4 : ∀ o, w4.cell? ⟨w.heap.size + 1, o, none⟩ = (nvs [])[o]? := (fun o => by simp [World.cell?, hz4]); have HN4 : Hid (Box w4 w3.heap.size (nvs (countL plan plan.length))) := (Box.new w3 (nvs (countL plan plan.length)) 115 (0, 0)).bl (by simp) hb4; have HB4 := Lib.hid (bl_tr (bl_al HB3.out _) hb4); have HC4 := Lib.hid (bl_tr (bl_al HC3.out _) hb4); have HS3 : Hid (w.heap.size + 1 < w3.heap.size) := (Array.getElem?_eq_some_iff.1 HZ3.out).1; clear hb4 hz4; rw [HCB.out]))
  exact bodyPost_ret (results_tct Tryz.results83 _ _ (w.heap.size + 1) 115 _ (0, 0) _ (by rfl) (zero5 _ _ _ rfl HZ4.out _ _ _ _ _) Tryz.underlying115 rfl (by kernel_rfl)) rfl ⟨rfl, bl_st (bl_st (bl_st (bl_st (bl_st HB4.out (by simp) _) (by simp) _) (by simp) _) (by simp) _) (by simp) _⟩
set_option maxRecDepth 100000 in
set_option maxHeartbeats 4000000 in
theorem planned_ok (r : Rm) (q : RA) (plan : List Int) (a1 : Option Addr) (c1 : Nat) (w : World) (hq : RoomAt w w.heap.size r q) (he : roomErr r = 0) (hpl : plan.length ≤ 1000000000) (hx : IntsAt w w.heap.size a1 plan) (har : areB r plan = true) (hcb : canB r (countL plan plan.length) = true) :
    Calls Tryz.prog 83 #[roomV r q, .slice a1 plan.length c1, .bool true] w fun e w' => ∃ m, e = .returned (.tuple #[.pointer (some ⟨m + 1, 0, none⟩), nv (countL plan plan.length), .int .i64 0]) ∧ BW r q w.heap.size (m + 1) m w' ∧ Below w.heap.size w w' := by
  have HO := Lib.hid (room_ok he)
  have HQ := Lib.hid hq
  have HE := Lib.hid he
  have HX := Lib.hid hx
  have HPL := Lib.hid hpl
  clear hq he hx hpl
  have HAR := Lib.hid har
  have HCB := Lib.hid hcb
  have HLN : Hid (plan.length = r.baths.length) := by unfold Hid; simp only [areB, Bool.and_eq_true, decide_eq_true_eq] at har; exact har.1
  have HPB : Hid (∀ j, j < plan.length → 0 ≤ nth plan j ∧ nth plan j ≤ 4) := fun j hj => by
    simp only [areB, Bool.and_eq_true, decide_eq_true_eq, allN_iff, inB, within_iff] at har
    have h1 := har.2 j (by omega)
    have h2 := HO.out.bs j (by omega)
    have h3 := HO.out.cop.l4
    omega
  have HCN : Hid (∀ j, 0 ≤ nth (countL plan plan.length) j) := fun j => by
    by_cases hj : j < 5
    · rw [countL, nth_rowI _ hj]; exact (cntI_le plan _ _).1
    · rw [nth_out _ _ (by rw [countL, rowI_len]; omega)]; omega
  clear har hcb
  go_enter Tryz.func83, Tryz.ntmps83
  go_wp2_with (first | (go_at_call 89; refine (askedR_ok r q _ (HQ.out.up (bl_al (bl_al (Below.refl _ _) _) _)) HO.out.cop.small HE.out).mono ?_; rintro e w1 ⟨m, rfl, hm, hmp, hcl, hb⟩; have hz1 : w1.heap[w.heap.size + 1]? = some (.cells (nvs []) 115 (0, 0)) := ((hb.block _ (by simp)).trans (by have := World.alloc_heap_new (w.alloc (.cells (roomCs r q) 44)) (.cells (nvs []) 115); rw [World.size_alloc] at this; exact this)); have HZ1 := Lib.hid hz1; have HX1 : Hid (Box w1 w.heap.size (roomCs r q)) := (((Box.new w (roomCs r q) 44 (0, 0)).al (by simp) _).bl (by simp) hb); have hbx := HX1.out; unfold Box roomCs at hbx; have HB := Lib.hid (bl_tr (bl_al (bl_al (Below.refl w.heap.size w) _) _) hb); have HMP := Lib.hid hmp; have HCL := Lib.hid hcl; have HM : Hid (w.heap.size + 2 < m) := (by simp at hm; unfold Hid; omega); clear hb hz1 hm hmp hcl) | (go_at_call 125; refine (are_c r q plan a1 c1 _ (HQ.out.up HB.out) HO.out.n5 HPL.out (HX.out.up HB.out)).mono ?_; clear hbx; rintro e w2 ⟨rfl, hb2⟩; have hz2 := (hb2.block _ (Array.getElem?_eq_some_iff.1 HZ1.out).1).trans HZ1.out; have HZ2 := Lib.hid hz2; have HX2 : Hid (Box w2 w.heap.size (roomCs r q)) := HX1.out.bl (by simp) hb2; have hbx := HX2.out; unfold Box roomCs at hbx; have HB2 := Lib.hid (bl_tr HB.out hb2); have HC2 := Lib.hid hb2; clear hb2 hz2; rw [HAR.out]) | (go_at_call 126; refine (counted_c plan a1 c1 _ (HX.out.up HB2.out) (by have := HLN.out; have := HO.out.n5; omega) HPB.out).mono ?_; clear hbx; rintro e w3 ⟨rfl, hb3⟩; have hz3 := (hb3.block _ (Array.getElem?_eq_some_iff.1 HZ2.out).1).trans HZ2.out; have HZ3 := Lib.hid hz3; have HX3 : Hid (Box w3 w.heap.size (roomCs r q)) := HX2.out.bl (by simp) hb3; have hbx := HX3.out; unfold Box roomCs at hbx; have HB3 := Lib.hid (bl_tr HB2.out hb3); have HC3 := Lib.hid (bl_tr HC2.out hb3); clear hb3 hz3) | (go_at_call 127; refine (possible_c r q (countL plan plan.length) _ (HQ.out.up (bl_al HB3.out _)) HO.out.fine HCN.out).mono ?_; clear hbx; rintro e w4 ⟨rfl, hb4⟩; have hz4 := (hb4.block _ (by have := (Array.getElem?_eq_some_iff.1 HZ3.out).1; simp; omega)).trans (heap_al HZ3.out (.cells (nvs (countL plan plan.length)) 115)); have HZ4 := Lib.hid hz4; have hfw4 : ∀ o, w4.frozen? ⟨w.heap.size + 1, o, none⟩ = false := (fun o => by simp [World.frozen?, hz4]); have hcw4 : ∀ o, w4.cell? ⟨w.heap.size + 1, o, none⟩ = (nvs [])[o]? := (fun o => by simp [World.cell?, hz4]); have HN4 : Hid (Box w4 w3.heap.size (nvs (countL plan plan.length))) := (Box.new w3 (nvs (countL plan plan.length)) 115 (0, 0)).bl (by simp) hb4; have HB4 := Lib.hid (bl_tr (bl_al HB3.out _) hb4); have HC4 := Lib.hid (bl_tr (bl_al HC3.out _) hb4); have HS3 : Hid (w.heap.size + 1 < w3.heap.size) := (Array.getElem?_eq_some_iff.1 HZ3.out).1; clear hb4 hz4; rw [HCB.out]))
  have k0 : w4.cell? ⟨w3.heap.size, 0, none⟩ = some (.int .i64 (nth (countL plan plan.length) 0)) := HN4.out 0
  have k1 : w4.cell? ⟨w3.heap.size, 1, none⟩ = some (.int .i64 (nth (countL plan plan.length) 1)) := HN4.out 1
  have k2 : w4.cell? ⟨w3.heap.size, 2, none⟩ = some (.int .i64 (nth (countL plan plan.length) 2)) := HN4.out 2
  have k3 : w4.cell? ⟨w3.heap.size, 3, none⟩ = some (.int .i64 (nth (countL plan plan.length) 3)) := HN4.out 3
  have k4 : w4.cell? ⟨w3.heap.size, 4, none⟩ = some (.int .i64 (nth (countL plan plan.length) 4)) := HN4.out 4
  have hkk : ∀ (o : Nat) (u0 u1 u2 u3 u4 : Value), (((((w4.setCell ⟨w.heap.size + 1, 0, none⟩ u0).setCell ⟨w.heap.size + 1, 1, none⟩ u1).setCell ⟨w.heap.size + 1, 2, none⟩ u2).setCell ⟨w.heap.size + 1, 3, none⟩ u3).setCell ⟨w.heap.size + 1, 4, none⟩ u4).cell? ⟨w3.heap.size, o, none⟩ = w4.cell? ⟨w3.heap.size, o, none⟩ := fun o u0 u1 u2 u3 u4 => ((((((Grown.refl (fun k => k = w.heap.size + 1) w4).setCell (.inl rfl) u0).setCell (.inl rfl) u1).setCell (.inl rfl) u2).setCell (.inl rfl) u3).setCell (.inl rfl) u4).cell (HN4.out.lt (by simp)) (by have := HS3.out; omega)
  have HG : Hid (Grown (fun k => k = w.heap.size + 1) w4 (((((w4.setCell ⟨w.heap.size + 1, 0, none⟩ (.int .i64 (nth (countL plan plan.length) 0))).setCell ⟨w.heap.size + 1, 1, none⟩ (.int .i64 (nth (countL plan plan.length) 1))).setCell ⟨w.heap.size + 1, 2, none⟩ (.int .i64 (nth (countL plan plan.length) 2))).setCell ⟨w.heap.size + 1, 3, none⟩ (.int .i64 (nth (countL plan plan.length) 3))).setCell ⟨w.heap.size + 1, 4, none⟩ (.int .i64 (nth (countL plan plan.length) 4))).drew) := ((((((Grown.refl (fun k => k = w.heap.size + 1) w4).setCell (.inl rfl) _).setCell (.inl rfl) _).setCell (.inl rfl) _).setCell (.inl rfl) _).setCell (.inl rfl) _).drew
  have HCL4 : Hid (m + 1 < w4.heap.size ∧ w4.heap[m + 1]? = some (.cells (bwCs r q m) 174 (0, 0)) ∧ w4.heap[m]? = some (.map #[] 0)) := (by have h1 := (Array.getElem?_eq_some_iff.1 HCL.out).1; have h2 := (Array.getElem?_eq_some_iff.1 HMP.out).1; have h3 := HC4.out.size; exact ⟨by omega, (HC4.out.block _ h1).trans HCL.out, (HC4.out.block _ h2).trans HMP.out⟩)
  go_region_held3 (fun w' => w'.cell? ⟨w3.heap.size, 0, none⟩ = some (.int .i64 (nth (countL plan plan.length) 0)) ∧ w'.cell? ⟨w3.heap.size, 1, none⟩ = some (.int .i64 (nth (countL plan plan.length) 1)) ∧ w'.cell? ⟨w3.heap.size, 2, none⟩ = some (.int .i64 (nth (countL plan plan.length) 2)) ∧ w'.cell? ⟨w3.heap.size, 3, none⟩ = some (.int .i64 (nth (countL plan plan.length) 3)) ∧ w'.cell? ⟨w3.heap.size, 4, none⟩ = some (.int .i64 (nth (countL plan plan.length) 4))) (first | go_keep) (fail)
  all_goals (
    go_wp2
    refine bodyPost_ret (results_tct Tryz.results83 _ _ (w.heap.size + 1) 115 _ (0, 0) _ (by rfl) (zero5 w4 _ _ rfl HZ4.out _ _ _ _ _) Tryz.underlying115 rfl (by kernel_rfl)) rfl ⟨m, rfl, ?_, ?_⟩
    · exact ⟨HO.out, (HG.out.block _ (by have := HCL4.out.1; exact this) (by have := HM.out; omega)).trans HCL4.out.2.1, ⟨#[], 0, (HG.out.block _ (by have := HCL4.out.1; omega) (by have := HM.out; omega)).trans HCL4.out.2.2, by intro e he; simp at he⟩, HQ.out.below (bl_dr (bl_st (bl_st (bl_st (bl_st (bl_st HB4.out (by simp) _) (by simp) _) (by simp) _) (by simp) _) (by simp) _)), by have := HM.out; omega, rfl⟩
    · exact bl_dr (bl_st (bl_st (bl_st (bl_st (bl_st HB4.out (by simp) _) (by simp) _) (by simp) _) (by simp) _) (by simp) _))
end Go.Proofs.YtpgnplmjfhdncaaGreat
namespace Go.Proofs.YtpgnplmjfhdncaaGreat
open Go.RowKit
set_option linter.unusedVariables false
theorem planned_e (r : Rm) (q : RA) (plan : List Int) (a1 : Option Addr) (c1 : Nat) (fine : Bool) (w : World) (hq : RoomAt w w.heap.size r q) (hsm : Small r.cop) (hpl : plan.length ≤ 1000000000) (hx : IntsAt w w.heap.size a1 plan) (he : planErr r plan fine ≠ 0) :
    Calls Tryz.prog 83 #[roomV r q, .slice a1 plan.length c1, .bool fine] w fun e w' => e = .returned (.tuple #[.pointer none, nv [], .int .i64 (planErr r plan fine)]) ∧ Below w.heap.size w w' := by
  unfold planErr at he ⊢
  by_cases h0 : roomErr r = 0
  · rw [if_neg (by simp [h0])] at he ⊢
    cases h1 : areB r plan with
    | false =>
      rw [if_pos (by simp)]
      exact planned_na r q plan a1 c1 fine w hq h0 hpl hx h1
    | true =>
      cases hf : fine with
      | false =>
        rw [if_pos (by simp)]
        exact planned_nf r q plan a1 c1 w hq h0 hpl hx h1
      | true =>
        rw [h1, hf] at he
        rw [if_neg (by simp)] at he ⊢
        cases h2 : canB r (countL plan plan.length) with
        | false =>
          rw [if_pos rfl]
          exact planned_9 r q plan a1 c1 w hq h0 hpl hx h1 h2
        | true =>
          rw [h2] at he
          simp at he
  · rw [if_pos h0]
    exact planned_bad r q plan a1 c1 fine w hq hsm h0
theorem planErr_ok {r : Rm} {plan : List Int} {fine : Bool} (h : planErr r plan fine = 0) : roomErr r = 0 ∧ areB r plan = true ∧ fine = true ∧ canB r (countL plan plan.length) = true := by
  unfold planErr at h
  by_cases h0 : roomErr r = 0
  · rw [if_neg (by simp [h0])] at h
    by_cases h1 : (areB r plan && fine) = false
    · rw [if_pos h1] at h; cases h
    · rw [if_neg h1] at h
      by_cases h2 : canB r (countL plan plan.length) = false
      · rw [if_pos h2] at h; cases h
      · simp at h1 h2
        exact ⟨h0, h1.1, h1.2, h2⟩
  · rw [if_pos h0] at h; exact absurd h h0
theorem planned_y (r : Rm) (q : RA) (plan : List Int) (a1 : Option Addr) (c1 : Nat) (fine : Bool) (w : World) (hq : RoomAt w w.heap.size r q) (hpl : plan.length ≤ 1000000000) (hx : IntsAt w w.heap.size a1 plan) (he : planErr r plan fine = 0) :
    Calls Tryz.prog 83 #[roomV r q, .slice a1 plan.length c1, .bool fine] w fun e w' => ∃ m, e = .returned (.tuple #[.pointer (some ⟨m + 1, 0, none⟩), nv (countL plan plan.length), .int .i64 0]) ∧ BW r q w.heap.size (m + 1) m w' ∧ Below w.heap.size w w' := by
  obtain ⟨h0, h1, h2, h3⟩ := planErr_ok he
  subst h2
  exact planned_ok r q plan a1 c1 w hq h0 hpl hx h1 h3
set_option maxRecDepth 100000 in
set_option maxHeartbeats 4000000 in
theorem keepsY_c (r : Rm) (q : RA) (plan : List Int) (a1 : Option Addr) (c1 : Nat) (w : World) (hq : RoomAt w w.heap.size r q) (hpl : plan.length ≤ 1000000000) (hx : IntsAt w w.heap.size a1 plan) (he : planErr r plan true = 0) :
    Calls Tryz.prog 72 #[roomV r q, .slice a1 plan.length c1] w fun e w' => e = .returned (.tuple #[.int .i64 (keepsF r (countL plan plan.length)), .int .i64 0]) ∧ Below w.heap.size w w' := by
  have HQ := Lib.hid hq
  have HX := Lib.hid hx
  have HE := Lib.hid he
  have HCN : Hid (∀ j, 0 ≤ nth (countL plan plan.length) j ∧ nth (countL plan plan.length) j ≤ 100) := fun j => by
    obtain ⟨h0, h1, _, _⟩ := planErr_ok he
    simp only [areB, Bool.and_eq_true, decide_eq_true_eq] at h1
    have h5 := (room_ok h0).n5
    by_cases hj : j < 5
    · rw [countL, nth_rowI _ hj]
      have := cntI_le plan plan.length j
      omega
    · rw [nth_out _ _ (by rw [countL, rowI_len]; omega)]; omega
  have HCB := Lib.hid (planErr_ok he).2.2.2
  clear hq hx he
  go_enter Tryz.func72, Tryz.ntmps72
  go_wp2_with (first | (go_at_call 83; refine (planned_y r q plan a1 c1 true _ (HQ.out.up (bl_al (Below.refl _ _) _)) hpl (HX.out.up (bl_al (Below.refl _ _) _)) HE.out).mono ?_; rintro e w1 ⟨m, rfl, hbw, hb⟩; have HBW := Lib.hid hbw; have HB := Lib.hid (bl_tr (bl_al (Below.refl w.heap.size w) _) hb); clear hb hbw) | (go_at_call 120; refine (keepsR_c r q _ (m + 1) m (countL plan plan.length) _ (HBW.out.up (bl_al (Below.refl _ _) _)) HCN.out HCB.out).mono ?_; rintro e w2 ⟨rfl, hbw2, hext⟩; have HX2 := Lib.hid hext; clear hbw2 hext))
  go_ret2
  exact ⟨rfl, (bl_al HB.out _).trans (HX2.out.below (by have := HB.out.size; simp; omega) (fun k hk => by simp at hk; subst hk; have := HBW.out.bm; simp at this; omega))⟩
end Go.Proofs.YtpgnplmjfhdncaaGreat
namespace Go.Proofs.YtpgnplmjfhdncaaGreat
open Go.RowKit
set_option linter.unusedVariables false
set_option maxRecDepth 100000 in
set_option maxHeartbeats 4000000 in
theorem playY_c (r : Rm) (q : RA) (plan : List Int) (a1 : Option Addr) (c1 : Nat) (w : World) (hq : RoomAt w w.heap.size r q) (hpl : plan.length ≤ 1000000000) (hx : IntsAt w w.heap.size a1 plan) (he : planErr r plan true = 0) :
    Calls Tryz.prog 24 #[roomV r q, .slice a1 plan.length c1] w fun e w' => ∃ A c, e = .returned (.tuple #[.slice A (bucketsL r (countL plan plan.length)).length c, .int .i64 0]) ∧ IntsAt w' w'.heap.size A (bucketsL r (countL plan plan.length)) ∧ Below w.heap.size w w' := by
  have HQ := Lib.hid hq
  have HX := Lib.hid hx
  have HE := Lib.hid he
  have HO := Lib.hid (room_ok (planErr_ok he).1)
  have HCN : Hid (∀ j, 0 ≤ nth (countL plan plan.length) j ∧ nth (countL plan plan.length) j ≤ 100) := fun j => by
    obtain ⟨h0, h1, _, _⟩ := planErr_ok he
    simp only [areB, Bool.and_eq_true, decide_eq_true_eq] at h1
    have h5 := (room_ok h0).n5
    by_cases hj : j < 5
    · rw [countL, nth_rowI _ hj]
      have := cntI_le plan plan.length j
      omega
    · rw [nth_out _ _ (by rw [countL, rowI_len]; omega)]; omega
  clear hq hx he
  go_enter Tryz.func24, Tryz.ntmps24
  go_wp2_with (first | (go_at_call 83; refine (planned_y r q plan a1 c1 true _ (HQ.out.up (bl_al (Below.refl _ _) _)) hpl (HX.out.up (bl_al (Below.refl _ _) _)) HE.out).mono ?_; rintro e w1 ⟨m, rfl, hbw, hb⟩; have hbx : Box w1 w.heap.size (roomCs r q) := (Box.new w (roomCs r q) 44 (0, 0)).bl (by simp) hb; unfold Box roomCs at hbx; have HB := Lib.hid (bl_tr (bl_al (Below.refl w.heap.size w) _) hb); clear hb hbw) | (go_at_call 84; refine (buckets_r r q (countL plan plan.length) _ HO.out.cop.l0 HO.out.cop.l4 HO.out.b1 HO.out.b9 HCN.out).mono ?_; clear hbx; rintro e w2 ⟨u, rfl, hown, hb2⟩; obtain ⟨A, kk, rfl, hI, -⟩ := own_ints hown; have HI := Lib.hid hI; have HB2 := Lib.hid hb2; clear hown hI hb2))
  go_ret2
  exact ⟨A, kk, rfl, HI.out, bl_tr (bl_al HB.out _) HB2.out⟩
end Go.Proofs.YtpgnplmjfhdncaaGreat
namespace Go.Proofs.YtpgnplmjfhdncaaGreat
open Go.RowKit
set_option linter.unusedVariables false
theorem first_c (a b : Int) (w : World) : Calls Tryz.prog 91 #[.agg #[.int .i64 a, .int .i64 b]] w fun e w' => e = .returned (.int .i64 a) ∧ Below w.heap.size w w' := by
  go_enter Tryz.func91, Tryz.ntmps91
  go_wp2
  go_ret
  exact ⟨rfl, bl_al (Below.refl _ _) _⟩
theorem last_c (a b : Int) (w : World) : Calls Tryz.prog 92 #[.agg #[.int .i64 a, .int .i64 b]] w fun e w' => e = .returned (.int .i64 b) ∧ Below w.heap.size w w' := by
  go_enter Tryz.func92, Tryz.ntmps92
  go_wp2
  go_ret
  exact ⟨rfl, bl_al (Below.refl _ _) _⟩
theorem index5 (n : List Int) (j : Nat) (hj : j < 5) (w : World) : (Instr.index 115 (nv n) (.int .i64 j)).run Tryz.prog w = .ok (.int .i64 (nth n j)) w := by
  obtain ⟨i, hi⟩ := Option.isSome_iff_exists.1 info3'
  have hs : (sizeOf 3).run Tryz.prog w = .ok 1 w := by rw [run_sizeOf w hi, cells3]
  have hp := part3 (nvs n) j (nth n j) w (nvs_at n j hj)
  have h2 : (0 : Int) ≤ (j : Int) ∧ (j : Int) < ((5 : Nat) : Int) := by omega
  simp only [Instr.index, asIntOf, Sem.run_bind, Sem.run_pure, Result.andThen_ok, run_underlying Tryz.underlying115, if_pos h2, hs, Nat.mul_one, Int.toNat_natCast]
  exact hp
def sumN (n : List Int) : Nat → Int
  | 0 => 0
  | j + 1 => sumN n j + nth n j
theorem sumN_bd {n : List Int} (hn : ∀ j, 0 ≤ nth n j ∧ nth n j ≤ 100) : ∀ j, 0 ≤ sumN n j ∧ sumN n j ≤ 100 * j
  | 0 => by simp [sumN]
  | j + 1 => by
    have h1 := sumN_bd hn j
    have h2 := hn j
    simp only [sumN]
    omega
set_option maxRecDepth 100000 in
set_option maxHeartbeats 2000000 in
theorem sum_c (n : List Int) (w : World) (hn : ∀ j, 0 ≤ nth n j ∧ nth n j ≤ 100) : Calls Tryz.prog 104 #[nv n] w fun e w' => e = .returned (.int .i64 (sumN n 5)) ∧ Below w.heap.size w w' := by
  have HN := Lib.hid hn
  clear hn
  go_enter Tryz.func104, Tryz.ntmps104
  go_wp2
  go_loopw [2, 6] (fun s i wr => ∃ j : Nat, j ≤ 5 ∧ i = .int .i64 j ∧ s = .int .i64 (sumN n j) ∧ Below w.heap.size w wr) (fun _ i _ => 5 - (intOf i).toNat)
  case atStart => exact ⟨0, by omega, rfl, rfl, bl_al (Below.refl _ _) _⟩
  case round =>
    obtain ⟨j, hj, rfl, rfl, hb⟩ := hrel
    have HB := Lib.hid hb
    clear hb
    by_cases hlt : j < 5
    · have hs := sumN_bd HN.out j
      have hv := HN.out j
      have hat := index5 n j hlt wr
      have hj1 : (j : Int) < 5 := by omega
      go_wp2
      go_roundw
      case rel => exact ⟨j + 1, by omega, by go_num, rfl, HB.out⟩
      case measure => simp [intOf]; omega
    · obtain rfl : j = 5 := by omega
      go_wp2
      go_ret
      exact ⟨rfl, HB.out⟩
end Go.Proofs.YtpgnplmjfhdncaaGreat
namespace Go.Proofs.YtpgnplmjfhdncaaGreat
open Go.RowKit
set_option linter.unusedVariables false
/-- k more baths in an hour. -/
def addAt (n : List Int) (h : Nat) (k : Int) : List Int := rowI (fun i => if i = h then nth n i + k else nth n i) 5
/-- How many more. -/
def freeC (r : Rm) (n : List Int) (h : Nat) : Int := idxN (fun k => !sureB r (addAt n h ((k : Int) + 1))) 0 7
theorem nth_addAt (n : List Int) (h : Nat) (k : Int) (i : Nat) (hi : i < 5) : nth (addAt n h k) i = if i = h then nth n i + k else nth n i := by
  rw [addAt, nth_rowI _ hi]
theorem addAt_out {r : Rm} (ho : RoomOk r) {n : List Int} (hn : ∀ j, 0 ≤ nth n j) (h : Nat) (hh : (h : Int) ≤ r.cop.last) (k : Int) (hk : 6 ≤ k) : sureB r (addAt n h k) = false := by
  have hc : canB r (addAt n h k) = false := by
    cases hc : canB r (addAt n h k) with
    | false => rfl
    | true =>
      have h4 := ho.cop.l4
      have h1 := canB_at hc h (by omega)
      rw [nth_addAt _ _ _ _ (by omega), if_pos rfl] at h1
      have h2 := hn h
      have h3 := ho.p5
      omega
  simp [sureB, hc]
end Go.Proofs.YtpgnplmjfhdncaaGreat
namespace Go.Proofs.YtpgnplmjfhdncaaGreat
open Go.RowKit
set_option linter.unusedVariables false
end Go.Proofs.YtpgnplmjfhdncaaGreat
