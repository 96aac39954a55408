/- The memo of coal: a map whose keys are five numbers, of Booleans. -/
import Derived.Test.YtpgnplmjfhdncaaGreatKG1
import Derived.Laws.CopyOwn
import Derived.Deep.RegionLaw
import Derived.Test.YtpgnplmjfhdncaaGreatKL2
namespace Go.Proofs.YtpgnplmjfhdncaaGreat
open Go.RowKit
set_option linter.unusedVariables false
theorem info4z : (Tryz.prog.info? 4).map (fun i => (i.zero, i.size, i.bytes)) = some (some (.bool false), 1, 1) := by kernel_rfl
set_option maxRecDepth 100000 in
theorem keyed205 : Maps.Keyed Tryz.prog 205 := Maps.Keyed.of_law (deep_law (m := 2) (by decide) (by kernel_rfl) (by kernel_rfl) (by kernel_rfl))
theorem size205 : Tryz.prog.cellsOf 205 = 5 := by kernel_rfl
theorem kt205 : Tryz.prog.keyType 205 = true := by kernel_rfl
theorem keyOf_nvK (n : List Int) (hn : ∀ j, 0 ≤ nth n j ∧ nth n j ≤ 1000) : ∃ l, keyOf Tryz.prog 205 (nv n) = some l := by
  have hz : (Tryz.prog.types.size == 0) = false := by kernel_rfl
  obtain ⟨D, hD⟩ : ∃ D, Tryz.prog.types.size + 1 = D + 2 := ⟨Tryz.prog.types.size - 1, by have : Tryz.prog.types.size ≠ 0 := (by simp); omega⟩
  have h0 := lits3 D (nth n 0) (wf_small _ (hn 0).1 (by have := (hn 0).2; omega))
  have h1 := lits3 D (nth n 1) (wf_small _ (hn 1).1 (by have := (hn 1).2; omega))
  have h2 := lits3 D (nth n 2) (wf_small _ (hn 2).1 (by have := (hn 2).2; omega))
  have h3 := lits3 D (nth n 3) (wf_small _ (hn 3).1 (by have := (hn 3).2; omega))
  have h4 := lits3 D (nth n 4) (wf_small _ (hn 4).1 (by have := (hn 4).2; omega))
  have hf : (nv n).formed Tryz.prog 205 = true := by simp [Value.formed, Tryz.underlying205, size205]
  have hk : Tryz.prog.keyLits (D + 2) 205 (nv n).cells.toList = some [.int .i64 (nth n 0), .int .i64 (nth n 1), .int .i64 (nth n 2), .int .i64 (nth n 3), .int .i64 (nth n 4)] := by
    show Tryz.prog.keyLits (D + 1 + 1) 205 [.int .i64 (nth n 0), .int .i64 (nth n 1), .int .i64 (nth n 2), .int .i64 (nth n 3), .int .i64 (nth n 4)] = _
    generalize D + 1 = E at h0 h1 h2 h3 h4 ⊢
    simp only [Program.keyLits, Tryz.underlying205, size205, cells3, List.length_cons, List.length_nil, Nat.zero_add, Nat.reduceAdd, if_true]
    rw [show List.range 5 = [0, 1, 2, 3, 4] from rfl]
    simp [List.mapM_cons, h0, h1, h2, h3, h4]
  refine ⟨.string (keyBytes [.int .i64 (nth n 0), .int .i64 (nth n 1), .int .i64 (nth n 2), .int .i64 (nth n 3), .int .i64 (nth n 4)]), ?_⟩
  unfold keyOf
  simp only [Tryz.underlying205, kt205, hf, hD, hk, Bool.and_self, if_true]
  rfl
/-- What the map holds: at keys F's value. -/
def MemoEsB (F : List Int → Bool) (es : Array MapEntry) : Prop := ∀ e ∈ es.toList, ∃ n, Small5 n ∧ e.key = nv n ∧ e.val = .bool (F n)
def MemoAtB (F : List Int → Bool) (m : Nat) (w : World) : Prop := ∃ es clock, w.heap[m]? = some (.map es clock) ∧ MemoEsB F es
def FiveB (F : List Int → Bool) : Prop := ∀ n n', (∀ j, j < 5 → nth n j = nth n' j) → F n = F n'
theorem run_lookB {F : List Int → Bool} (hF : FiveB F) {m : Nat} {w : World} {es : Array MapEntry} {clock : Nat} (hb : w.heap[m]? = some (.map es clock)) (hm : MemoEsB F es) {n : List Int} (hn : Small5 n) :
    ((Instr.lookup 181 (.map (some m)) (nv n) true).run Tryz.prog w = .ok (.tuple #[.bool (F n), .bool true]) w) ∨
    ((Instr.lookup 181 (.map (some m)) (nv n) true).run Tryz.prog w = .ok (.tuple #[.bool false, .bool false]) w ∧ ∀ e ∈ es.toList, e.key ≠ nv n) := by
  obtain ⟨l, hl⟩ := keyOf_nvK n hn
  have hchk := keyed205.check w es.isEmpty hl
  have hz : (zeroValue 4).run Tryz.prog w = .ok (.bool false) w := by
    obtain ⟨i0, hi, hzz⟩ := Option.map_eq_some_iff.1 info4z
    simp only [Prod.mk.injEq] at hzz
    simp [zeroValue, typeInfo, hi, hzz.1]
  rcases keyed205.find w hl es.toList (fun e he => by obtain ⟨n', h1, h2, _⟩ := hm e he; rw [h2]; exact keyOf_nvK n' h1) with ⟨hf, hno⟩ | ⟨j, e, hf, he, hk⟩
  · refine .inr ⟨?_, hno⟩
    simp [Instr.lookup, run_underlying Tryz.underlying181, run_getMap hb, hchk, hf, hz]
  · refine .inl ?_
    obtain ⟨n', h1, h2, h3⟩ := hm e (List.mem_of_getElem? he)
    have : F n' = F n := hF _ _ (nv_inj (h2.symm.trans hk))
    rw [h3, this] at hf
    simp [Instr.lookup, run_underlying Tryz.underlying181, run_getMap hb, hchk, hf]
theorem run_updB {F : List Int → Bool} {m : Nat} {w : World} {es : Array MapEntry} {clock : Nat} (hb : w.heap[m]? = some (.map es clock)) (hm : MemoEsB F es) {n : List Int} (hn : Small5 n) (hno : ∀ e ∈ es.toList, e.key ≠ nv n) :
    ∃ w', (Instr.mapUpdate 181 (.map (some m)) (nv n) (.bool (F n))).run Tryz.prog w = .ok () w' ∧ MemoAtB F m w' ∧ Ext [m] w w' := by
  obtain ⟨l, hl⟩ := keyOf_nvK n hn
  have hchk := keyed205.check w false hl
  rcases keyed205.find w hl es.toList (fun e he => by obtain ⟨n', h1, h2, _⟩ := hm e he; rw [h2]; exact keyOf_nvK n' h1) with ⟨hf, _⟩ | ⟨j, e, hf, he, hk⟩
  · refine ⟨w.putObj m (.map (es.push { key := nv n, val := .bool (F n), born := clock }) (clock + 1)), ?_, ?_, ?_⟩
    · simp [Instr.mapUpdate, run_underlying Tryz.underlying181, run_getMap hb, hchk, hf, run_setMap hb]
    · refine ⟨_, _, World.putObj_heap_same (Array.getElem?_eq_some_iff.1 hb).1, ?_⟩
      intro e he
      simp at he
      rcases he with he | rfl
      · exact hm e (by simpa using he)
      · exact ⟨n, hn, rfl, rfl⟩
    · have := (Grown.refl (fun k => k = m) w).putObj (l := m) (.inl rfl) (.map (es.push { key := nv n, val := .bool (F n), born := clock }) (clock + 1))
      exact ⟨this.os, this.tape, this.output, this.size, fun k hk hn => this.block k hk (fun e => hn (by simp [e]))⟩
  · exact (hno e (List.mem_of_getElem? he) hk).elim
theorem look_yesB {F : List Int → Bool} (hF : FiveB F) {m : Nat} {w : World} {es : Array MapEntry} {clock : Nat} (hb : w.heap[m]? = some (.map es clock)) (hm : MemoEsB F es) {n : List Int} (hn : Small5 n) (hy : ∃ e ∈ es.toList, e.key = nv n) :
    (Instr.lookup 181 (.map (some m)) (nv n) true).run Tryz.prog w = .ok (.tuple #[.bool (F n), .bool true]) w := by
  rcases run_lookB hF hb hm hn with h | ⟨_, h⟩
  · exact h
  · obtain ⟨e, he, hk⟩ := hy
    exact (h e he hk).elim
theorem look_noB {F : List Int → Bool} (hF : FiveB F) {m : Nat} {w : World} {es : Array MapEntry} {clock : Nat} (hb : w.heap[m]? = some (.map es clock)) (hm : MemoEsB F es) {n : List Int} (hn : Small5 n) (hy : ¬ ∃ e ∈ es.toList, e.key = nv n) :
    (Instr.lookup 181 (.map (some m)) (nv n) true).run Tryz.prog w = .ok (.tuple #[.bool false, .bool false]) w := by
  obtain ⟨l, hl⟩ := keyOf_nvK n hn
  have hchk := keyed205.check w es.isEmpty hl
  have hz : (zeroValue 4).run Tryz.prog w = .ok (.bool false) w := by
    obtain ⟨i0, hi, hzz⟩ := Option.map_eq_some_iff.1 info4z
    simp only [Prod.mk.injEq] at hzz
    simp [zeroValue, typeInfo, hi, hzz.1]
  rcases keyed205.find w hl es.toList (fun e he => by obtain ⟨n', h1, h2, _⟩ := hm e he; rw [h2]; exact keyOf_nvK n' h1) with ⟨hf, hno⟩ | ⟨j, e, hf, he, hk⟩
  · simp [Instr.lookup, run_underlying Tryz.underlying181, run_getMap hb, hchk, hf, hz]
  · exact (hy ⟨e, List.mem_of_getElem? he, hk⟩).elim
end Go.Proofs.YtpgnplmjfhdncaaGreat
/- copper's sure: what is asked of each truth. -/
namespace Go.Proofs.YtpgnplmjfhdncaaGreat
open Go.RowKit
set_option linter.unusedVariables false
/-- Whether all promises are kept with coal, in a truth. -/
def keptA (c : Cop) (coal : List Int) (s : Int × List Int) : Bool := !anyN (fun j => !nb (keptL c coal c.want s (c.last + 1).toNat) j) (keptL c coal c.want s (c.last + 1).toNat).length
theorem part161 (xs : Array Value) (i : Nat) (A : Option Addr) (n k : Nat) (W : World) (h : xs[i]? = some (.slice A n k)) : (part 161 xs i).run Tryz.prog W = .ok (.slice A n k) W := by
  unfold part
  go_simp
@[go_sem] theorem field163 (a b : Value) (A : Option Addr) (n k : Nat) (w : World) : (Instr.field 163 (.agg #[a, b, .slice A n k]) 2).run Tryz.prog w = .ok (.slice A n k) w := by
  simp only [Instr.field, Sem.run_bind, run_underlying Tryz.underlying163, Result.andThen_ok]
  exact part161 _ _ A n k w rfl
set_option maxRecDepth 100000 in
set_option maxHeartbeats 8000000 in
theorem sureK_c (c : Cop) (q : CA) (tr : List (Int × List Int)) (wb m base : Nat) (v : Value) (coal : List Int) (a1 : Option Addr) (c1 pw pc : Nat) (s : Int × List Int) (w : World) (hq : CopAt w w.heap.size c q) (hw : WorkAt c q tr wb m base v w) (hp : Plays c coal c.want s) (hx : IntsAt w w.heap.size a1 coal) (hpw : Box w pw #[.pointer (some ⟨wb, 0, none⟩)]) (hpc : Box w pc #[.slice a1 coal.length c1]) :
    Calls Tryz.prog 170 #[scV s.1 s.2, .pointer (some ⟨pw, 0, none⟩), .pointer (some ⟨pc, 0, none⟩)] w fun e w' => e = .returned (.bool (keptA c coal s)) ∧ Below w.heap.size w w' := by
  have HQ := Lib.hid hq
  have HP := Lib.hid hp
  have HX := Lib.hid hx
  have hwb : ∀ o, w.cell? ⟨wb, o, none⟩ = (wkCs c q v m)[o]? := fun o => by simp [World.cell?, hw.cells]
  have hl4 := hp.l4
  obtain ⟨W1, hW1⟩ : ∃ W1, w.alloc (.cells (scCs s.1 s.2) 158) = W1 := ⟨_, rfl⟩
  have HB1 : Hid (Below w.heap.size w W1) := by rw [← hW1]; exact bl_al (Below.refl _ _) _
  have hbx : Box W1 w.heap.size (scCs s.1 s.2) := by rw [← hW1]; exact Box.new _ _ _ _
  have k0 : W1.cell? ⟨pw, 0, none⟩ = some (.pointer (some ⟨wb, 0, none⟩)) := cell_later HB1.out (hpw 0)
  have k1 : W1.cell? ⟨pc, 0, none⟩ = some (.slice a1 coal.length c1) := cell_later HB1.out (hpc 0)
  have k2 : W1.cell? ⟨wb, 0, none⟩ = some (.int .i64 c.last) := cell_later HB1.out (hwb 0)
  have k3 : W1.cell? ⟨wb, 1, none⟩ = some (.int .i64 c.start) := cell_later HB1.out (hwb 1)
  have k4 : W1.cell? ⟨wb, 2, none⟩ = some (.int .i64 c.most) := cell_later HB1.out (hwb 2)
  have k5 : W1.cell? ⟨wb, 3, none⟩ = some (.int .i64 c.per) := cell_later HB1.out (hwb 3)
  have k6 : W1.cell? ⟨wb, 4, none⟩ = some (.int .i64 c.shovels) := cell_later HB1.out (hwb 4)
  have k7 : W1.cell? ⟨wb, 5, none⟩ = some (.slice q.a1 c.coal.length q.c1) := cell_later HB1.out (hwb 5)
  have k8 : W1.cell? ⟨wb, 6, none⟩ = some (.slice q.a2 c.want.length q.c2) := cell_later HB1.out (hwb 6)
  have k9 : W1.cell? ⟨wb, 7, none⟩ = some (.int .i64 c.hlo) := cell_later HB1.out (hwb 7)
  have k10 : W1.cell? ⟨wb, 8, none⟩ = some (.int .i64 c.hhi) := cell_later HB1.out (hwb 8)
  have k11 : W1.cell? ⟨wb, 9, none⟩ = some (.slice q.a3 c.loss.length q.c3) := cell_later HB1.out (hwb 9)
  have k12 : W1.cell? ⟨wb, 10, none⟩ = some (.slice q.a4 c.rds.length q.c4) := cell_later HB1.out (hwb 10)
  have k13 : W1.cell? ⟨w.heap.size, 0, none⟩ = some (.int .i64 s.1) := hbx 0
  have k14 : W1.cell? ⟨w.heap.size, 1, none⟩ = some (.int .i64 (nth s.2 0)) := hbx 1
  have k15 : W1.cell? ⟨w.heap.size, 2, none⟩ = some (.int .i64 (nth s.2 1)) := hbx 2
  have k16 : W1.cell? ⟨w.heap.size, 3, none⟩ = some (.int .i64 (nth s.2 2)) := hbx 3
  have k17 : W1.cell? ⟨w.heap.size, 4, none⟩ = some (.int .i64 (nth s.2 3)) := hbx 4
  have k18 : W1.cell? ⟨w.heap.size, 5, none⟩ = some (.int .i64 (nth s.2 4)) := hbx 5
  have HW1 := Lib.hid hW1
  clear hq hw hp hx hpw hpc hwb hbx hW1
  go_enter Tryz.func170, Tryz.ntmps170
  go_wp2
  rw [HW1.out]
  go_region_held3 (fun w' => w'.cell? ⟨pw, 0, none⟩ = some (.pointer (some ⟨wb, 0, none⟩)) ∧ w'.cell? ⟨pc, 0, none⟩ = some (.slice a1 coal.length c1) ∧ w'.cell? ⟨wb, 0, none⟩ = some (.int .i64 c.last) ∧ w'.cell? ⟨wb, 1, none⟩ = some (.int .i64 c.start) ∧ w'.cell? ⟨wb, 2, none⟩ = some (.int .i64 c.most) ∧ w'.cell? ⟨wb, 3, none⟩ = some (.int .i64 c.per) ∧ w'.cell? ⟨wb, 4, none⟩ = some (.int .i64 c.shovels) ∧ w'.cell? ⟨wb, 5, none⟩ = some (.slice q.a1 c.coal.length q.c1) ∧ w'.cell? ⟨wb, 6, none⟩ = some (.slice q.a2 c.want.length q.c2) ∧ w'.cell? ⟨wb, 7, none⟩ = some (.int .i64 c.hlo) ∧ w'.cell? ⟨wb, 8, none⟩ = some (.int .i64 c.hhi) ∧ w'.cell? ⟨wb, 9, none⟩ = some (.slice q.a3 c.loss.length q.c3) ∧ w'.cell? ⟨wb, 10, none⟩ = some (.slice q.a4 c.rds.length q.c4) ∧ w'.cell? ⟨w.heap.size, 0, none⟩ = some (.int .i64 s.1) ∧ w'.cell? ⟨w.heap.size, 1, none⟩ = some (.int .i64 (nth s.2 0)) ∧ w'.cell? ⟨w.heap.size, 2, none⟩ = some (.int .i64 (nth s.2 1)) ∧ w'.cell? ⟨w.heap.size, 3, none⟩ = some (.int .i64 (nth s.2 2)) ∧ w'.cell? ⟨w.heap.size, 4, none⟩ = some (.int .i64 (nth s.2 3)) ∧ w'.cell? ⟨w.heap.size, 5, none⟩ = some (.int .i64 (nth s.2 4))) (first | assumption | go_keep) (first | (go_at_call 123; refine (play_c c q s coal c.want a1 c1 q.a2 q.c2 _ HP.out (HX.out.up (bl_dr HB1.out)) (HQ.out.want.up (bl_dr HB1.out))).mono ?_; rintro e w5 ⟨⟨u, rfl, hu⟩, hb5⟩; obtain ⟨A1, C1, A2, C2, A3, C3, rfl, h1, h2, h3⟩ := hu; have HB5 := Lib.hid hb5; have H3 := Lib.hid h3; have hS5 : (fun w' => w'.cell? ⟨pw, 0, none⟩ = some (.pointer (some ⟨wb, 0, none⟩)) ∧ w'.cell? ⟨pc, 0, none⟩ = some (.slice a1 coal.length c1) ∧ w'.cell? ⟨wb, 0, none⟩ = some (.int .i64 c.last) ∧ w'.cell? ⟨wb, 1, none⟩ = some (.int .i64 c.start) ∧ w'.cell? ⟨wb, 2, none⟩ = some (.int .i64 c.most) ∧ w'.cell? ⟨wb, 3, none⟩ = some (.int .i64 c.per) ∧ w'.cell? ⟨wb, 4, none⟩ = some (.int .i64 c.shovels) ∧ w'.cell? ⟨wb, 5, none⟩ = some (.slice q.a1 c.coal.length q.c1) ∧ w'.cell? ⟨wb, 6, none⟩ = some (.slice q.a2 c.want.length q.c2) ∧ w'.cell? ⟨wb, 7, none⟩ = some (.int .i64 c.hlo) ∧ w'.cell? ⟨wb, 8, none⟩ = some (.int .i64 c.hhi) ∧ w'.cell? ⟨wb, 9, none⟩ = some (.slice q.a3 c.loss.length q.c3) ∧ w'.cell? ⟨wb, 10, none⟩ = some (.slice q.a4 c.rds.length q.c4) ∧ w'.cell? ⟨w.heap.size, 0, none⟩ = some (.int .i64 s.1) ∧ w'.cell? ⟨w.heap.size, 1, none⟩ = some (.int .i64 (nth s.2 0)) ∧ w'.cell? ⟨w.heap.size, 2, none⟩ = some (.int .i64 (nth s.2 1)) ∧ w'.cell? ⟨w.heap.size, 3, none⟩ = some (.int .i64 (nth s.2 2)) ∧ w'.cell? ⟨w.heap.size, 4, none⟩ = some (.int .i64 (nth s.2 3)) ∧ w'.cell? ⟨w.heap.size, 5, none⟩ = some (.int .i64 (nth s.2 4))) w5 := ⟨cell_later hb5 (w := W1.drew) k0, cell_later hb5 (w := W1.drew) k1, cell_later hb5 (w := W1.drew) k2, cell_later hb5 (w := W1.drew) k3, cell_later hb5 (w := W1.drew) k4, cell_later hb5 (w := W1.drew) k5, cell_later hb5 (w := W1.drew) k6, cell_later hb5 (w := W1.drew) k7, cell_later hb5 (w := W1.drew) k8, cell_later hb5 (w := W1.drew) k9, cell_later hb5 (w := W1.drew) k10, cell_later hb5 (w := W1.drew) k11, cell_later hb5 (w := W1.drew) k12, cell_later hb5 (w := W1.drew) k13, cell_later hb5 (w := W1.drew) k14, cell_later hb5 (w := W1.drew) k15, cell_later hb5 (w := W1.drew) k16, cell_later hb5 (w := W1.drew) k17, cell_later hb5 (w := W1.drew) k18⟩; dsimp only at hS5; clear hb5 h1 h2 h3) | (go_at_call 168; refine (containsB_c (keptL c coal c.want s (c.last + 1).toNat) A3 C3 _ (by rw [keptL, rowB_len]; omega) H3.out).mono ?_; rintro e w6 ⟨rfl, hb6⟩; have HB6 := Lib.hid (bl_tr HB5.out hb6); have hS6 : (fun w' => w'.cell? ⟨pw, 0, none⟩ = some (.pointer (some ⟨wb, 0, none⟩)) ∧ w'.cell? ⟨pc, 0, none⟩ = some (.slice a1 coal.length c1) ∧ w'.cell? ⟨wb, 0, none⟩ = some (.int .i64 c.last) ∧ w'.cell? ⟨wb, 1, none⟩ = some (.int .i64 c.start) ∧ w'.cell? ⟨wb, 2, none⟩ = some (.int .i64 c.most) ∧ w'.cell? ⟨wb, 3, none⟩ = some (.int .i64 c.per) ∧ w'.cell? ⟨wb, 4, none⟩ = some (.int .i64 c.shovels) ∧ w'.cell? ⟨wb, 5, none⟩ = some (.slice q.a1 c.coal.length q.c1) ∧ w'.cell? ⟨wb, 6, none⟩ = some (.slice q.a2 c.want.length q.c2) ∧ w'.cell? ⟨wb, 7, none⟩ = some (.int .i64 c.hlo) ∧ w'.cell? ⟨wb, 8, none⟩ = some (.int .i64 c.hhi) ∧ w'.cell? ⟨wb, 9, none⟩ = some (.slice q.a3 c.loss.length q.c3) ∧ w'.cell? ⟨wb, 10, none⟩ = some (.slice q.a4 c.rds.length q.c4) ∧ w'.cell? ⟨w.heap.size, 0, none⟩ = some (.int .i64 s.1) ∧ w'.cell? ⟨w.heap.size, 1, none⟩ = some (.int .i64 (nth s.2 0)) ∧ w'.cell? ⟨w.heap.size, 2, none⟩ = some (.int .i64 (nth s.2 1)) ∧ w'.cell? ⟨w.heap.size, 3, none⟩ = some (.int .i64 (nth s.2 2)) ∧ w'.cell? ⟨w.heap.size, 4, none⟩ = some (.int .i64 (nth s.2 3)) ∧ w'.cell? ⟨w.heap.size, 5, none⟩ = some (.int .i64 (nth s.2 4))) w6 := ⟨cell_later (bl_tr HB5.out hb6) (w := W1.drew) k0, cell_later (bl_tr HB5.out hb6) (w := W1.drew) k1, cell_later (bl_tr HB5.out hb6) (w := W1.drew) k2, cell_later (bl_tr HB5.out hb6) (w := W1.drew) k3, cell_later (bl_tr HB5.out hb6) (w := W1.drew) k4, cell_later (bl_tr HB5.out hb6) (w := W1.drew) k5, cell_later (bl_tr HB5.out hb6) (w := W1.drew) k6, cell_later (bl_tr HB5.out hb6) (w := W1.drew) k7, cell_later (bl_tr HB5.out hb6) (w := W1.drew) k8, cell_later (bl_tr HB5.out hb6) (w := W1.drew) k9, cell_later (bl_tr HB5.out hb6) (w := W1.drew) k10, cell_later (bl_tr HB5.out hb6) (w := W1.drew) k11, cell_later (bl_tr HB5.out hb6) (w := W1.drew) k12, cell_later (bl_tr HB5.out hb6) (w := W1.drew) k13, cell_later (bl_tr HB5.out hb6) (w := W1.drew) k14, cell_later (bl_tr HB5.out hb6) (w := W1.drew) k15, cell_later (bl_tr HB5.out hb6) (w := W1.drew) k16, cell_later (bl_tr HB5.out hb6) (w := W1.drew) k17, cell_later (bl_tr HB5.out hb6) (w := W1.drew) k18⟩; dsimp only at hS6; clear hb6 hS5))
  go_wp2
  go_ret
  exact ⟨rfl, bl_tr (bl_dr HB1.out) HB6.out⟩
end Go.Proofs.YtpgnplmjfhdncaaGreat
/- copper's sure. -/
namespace Go.Proofs.YtpgnplmjfhdncaaGreat
open Go.RowKit
set_option linter.unusedVariables false
/-- Whether coal is sure. -/
def sureN (c : Cop) (coal : List Int) : Bool := allN (fun j => keptA c coal (scN (truthsC c) j)) (truthsC c).length
theorem before_congr {c : Cop} {a b want : List Int} {s : Int × List Int} (h : ∀ j, j < 5 → nth a j = nth b j) : ∀ i, i ≤ 5 → before c a want s i = before c b want s i := by
  intro i
  induction i with
  | zero => intro _; rfl
  | succ i ih => intro hi; simp only [before, heatOf, ih (by omega), h i (by omega)]
theorem rowB_congr {f g : Nat → Bool} {n : Nat} (h : ∀ j, j < n → f j = g j) : rowB f n = rowB g n := by
  unfold rowB
  apply List.map_congr_left
  intro j hj
  exact h j (List.mem_range.1 hj)
theorem sure_five (c : Cop) (h4 : c.last ≤ 4) : FiveB (sureN c) := fun a b h => by
  have : ∀ s, keptA c a s = keptA c b s := fun s => by
    have e : keptL c a c.want s (c.last + 1).toNat = keptL c b c.want s (c.last + 1).toNat := rowB_congr fun j hj => by
      simp only [keptAt, hotAt, heatAt, heatOf, before_congr h j (by omega), h j (by omega)]
      rfl
    simp only [keptA, e]
  simp only [sureN, this]
theorem splice_nv (coal : List Int) (h : coal.length ≤ 5) : (splice [.int .i64 0, .int .i64 0, .int .i64 0, .int .i64 0, .int .i64 0] 0 (ints coal)).toArray = nvs coal := by
  match coal, h with
  | [], _ => rfl
  | [_], _ => rfl
  | [_, _], _ => rfl
  | [_, _, _], _ => rfl
  | [_, _, _, _], _ => rfl
  | [_, _, _, _, _], _ => rfl
  | _ :: _ :: _ :: _ :: _ :: _ :: _, h => simp at h
theorem ints_cells {w : World} {b o : Nat} {xs : List Int} (h : ∀ j, j < xs.length → w.cell? ⟨b, o + j, none⟩ = some (.int .i64 (nth xs j))) : ∀ j v, (ints xs)[j]? = some v → w.cell? ((⟨b, o, none⟩ : Addr).add j) = some v := by
  intro j v hj
  have hl : j < xs.length := by have := (List.getElem?_eq_some_iff.1 hj).1; rwa [ints_len] at this
  rw [ints_at _ _ hl] at hj
  cases hj
  rw [← h j hl]
  unfold Addr.add
  split
  · rename_i h0; rw [h0]; rfl
  · rfl
theorem slice205 (b : Nat) (w : World) : (Instr.sliceAt 205 (.pointer (some ⟨b, 0, none⟩)) none none none).run Tryz.prog w = .ok (.slice (some ⟨b, 0, none⟩) 5 5) w := by
  have ha : Tryz.prog.arrayLen 205 = 5 := by simp [Program.arrayLen, Tryz.underlying205]
  have he : Tryz.prog.elem 205 = 3 := by simp [Program.elem, Tryz.underlying205]
  have hu : Tryz.prog.underlying 205 = some (.array (Tryz.prog.arrayLen 205) (Tryz.prog.elem 205)) := by rw [ha, he]; exact Tryz.underlying205
  obtain ⟨i, hi, _⟩ := Option.map_eq_some_iff.1 info3
  rw [run_sliceAt_array_all w 205 ⟨b, 0, none⟩ hu]
  rw [ha, he]
  simp [slicedAt, sizeOf, typeInfo, hi, Addr.add]
/-- Coppers at work: the struct in wb, the map in m. -/
structure CW (c : Cop) (q : CA) (B wb m base : Nat) (v : Value) (w : World) : Prop where
  ok : Okc c
  wk : WorkAt c q (truthsC c) wb m base v w
  memo : MemoAtB (sureN c) m w
  at_ : CopAt w B c q
  bm : B ≤ m
  wbm : wb = m + 1
  bas : m < base
theorem CW.lt {c : Cop} {q : CA} {B wb m base : Nat} {v : Value} {w : World} (h : CW c q B wb m base v w) : wb < w.heap.size := (Array.getElem?_eq_some_iff.1 h.wk.cells).1
theorem MemoAtB.up {F : List Int → Bool} {m : Nat} {w W : World} (h : MemoAtB F m w) (hb : Below w.heap.size w W) : MemoAtB F m W := by
  obtain ⟨es, clock, h1, h2⟩ := h
  exact ⟨es, clock, (hb.block _ (Array.getElem?_eq_some_iff.1 h1).1).trans h1, h2⟩
theorem CW.up {c : Cop} {q : CA} {B wb m base : Nat} {v : Value} {w W : World} (h : CW c q B wb m base v w) (hb : Below w.heap.size w W) : CW c q B wb m base v W :=
  ⟨h.ok, h.wk.up hb, h.memo.up hb, h.at_.below (hb.mono (by have := h.lt; have := h.bm; have := h.wbm; omega)), h.bm, h.wbm, h.bas⟩
theorem CW.copAt {c : Cop} {q : CA} {B wb m base : Nat} {v : Value} {w : World} (h : CW c q B wb m base v w) : CopAt w w.heap.size c q := h.at_.mono (by have := h.lt; have := h.bm; have := h.wbm; omega)
theorem CW.ext {c : Cop} {q : CA} {B wb m base : Nat} {v : Value} {w W : World} (h : CW c q B wb m base v w) (he : Ext [m] w W) (hm : MemoAtB (sureN c) m W) : CW c q B wb m base v W :=
  ⟨h.ok, ⟨(he.block _ h.lt (by have := h.wbm; simp; omega)).trans h.wk.cells, own_grown h.wk.row (T := fun k => k = m) ⟨he.os, he.tape, he.output, he.size, fun k hk hn => he.block k hk (fun hm => hn (by simpa using hm))⟩ (fun k hk => by have := h.bas; omega)⟩, hm, h.at_.below (he.below (by have := h.lt; have := h.bm; have := h.wbm; omega) (fun k hk => by simp at hk; subst hk; exact h.bm)), h.bm, h.wbm, h.bas⟩
set_option maxRecDepth 100000 in
set_option maxHeartbeats 8000000 in
theorem sureC_c (c : Cop) (q : CA) (B wb m base : Nat) (v : Value) (coal : List Int) (a1 : Option Addr) (c1 : Nat) (w : World) (h : CW c q B wb m base v w) (hl : (coal.length : Int) = c.last + 1) (hb : ∀ j, 0 ≤ nth coal j ∧ nth coal j ≤ 3) (hx : IntsAt w w.heap.size a1 coal) :
    Calls Tryz.prog 147 #[.pointer (some ⟨wb, 0, none⟩), .slice a1 coal.length c1] w fun e w' => e = .returned (.bool (sureN c coal)) ∧ CW c q B wb m base v w' ∧ Ext [m] w w' := by
  have hl4 := h.ok.l4
  have hl0 := h.ok.l0
  obtain ⟨es, clock, hmb, hmes⟩ := h.memo
  have hs5 : Small5 coal := fun j => by have := hb j; omega
  have HWBM := Lib.hid h.wbm
  have hwlt := h.lt
  obtain ⟨bA, oA, rfl, hbA, hcA⟩ := hx.at_ (by omega)
  have HW := Lib.hid h
  have HB := Lib.hid hb
  have HX := Lib.hid hx
  have HMB := Lib.hid hmb
  have HMES := Lib.hid hmes
  have HS5 := Lib.hid hs5
  have HF5 := Lib.hid (sure_five c hl4)
  have HML := Lib.hid ((Array.getElem?_eq_some_iff.1 hmb).1)
  have HCA := Lib.hid hcA
  obtain ⟨W0, hW0⟩ : ∃ W0, ((w.alloc (.cells #[.pointer (some ⟨wb, 0, none⟩)] 150)).alloc (.cells #[.slice (some ⟨bA, oA, none⟩) coal.length c1] 22)).alloc (.cells #[.int .i64 0, .int .i64 0, .int .i64 0, .int .i64 0, .int .i64 0] 205) = W0 := ⟨_, rfl⟩
  have HB0 : Hid (Below w.heap.size w W0) := by rw [← hW0]; exact bl_al (bl_al (bl_al (Below.refl _ _) _) _) _
  have HS0 : Hid (W0.heap.size = w.heap.size + 3) := by rw [← hW0]; simp [Hid]
  have H1 : Hid (Box W0 w.heap.size #[.pointer (some ⟨wb, 0, none⟩)]) := by rw [← hW0]; exact ((Box.new _ _ _ _).al (by simp) _).al (by simp) _
  have H2 : Hid (Box W0 (w.heap.size + 1) #[.slice (some ⟨bA, oA, none⟩) coal.length c1]) := by rw [← hW0]; exact (Box.new' _ _ _ _ (by simp)).al (by simp) _
  have H3 : Hid (W0.heap[w.heap.size + 1 + 1]? = some (.cells #[.int .i64 0, .int .i64 0, .int .i64 0, .int .i64 0, .int .i64 0] 205 (0, 0))) := by
    rw [← hW0]
    have := World.alloc_heap_new ((w.alloc (.cells #[.pointer (some ⟨wb, 0, none⟩)] 150)).alloc (.cells #[.slice (some ⟨bA, oA, none⟩) coal.length c1] 22)) (.cells #[.int .i64 0, .int .i64 0, .int .i64 0, .int .i64 0, .int .i64 0] 205)
    rw [World.size_alloc, World.size_alloc] at this
    exact this
  have HW0 := Lib.hid hW0
  have k2 : W0.cell? ⟨w.heap.size + 1, 0, none⟩ = some (.slice (some ⟨bA, oA, none⟩) coal.length c1) := H2.out 0
  clear h hb hx hmb hmes hs5 hcA hW0
  have hsl := fun b w => slice205 b w
  go_enter Tryz.func147, Tryz.ntmps147
  go_wp2
  rw [HW0.out]
  go_region_law (refine step_copy_splice rfl (.tmp 8) (.tmp 9) 22 22 rfl 3 Tryz.underlying22 (by kernel_rfl) (some ⟨w.heap.size + 1 + 1, 0, none⟩) (some ⟨bA, oA, none⟩) 5 5 coal.length c1 rfl rfl (w.heap.size + 1 + 1) 0 [.int .i64 0, .int .i64 0, .int .i64 0, .int .i64 0, .int .i64 0] 205 H3.out (ints coal) (by rw [ints_len]; exact (Nat.min_eq_left (by omega)).symm) (fun _ => ⟨rfl, ⟨bA, oA, none⟩, rfl, ints_cells (fun j hj => cell_later (bl_dr HB0.out) (HCA.out j hj))⟩) (by rw [ints_len]; simp; omega) (by simp [ints, Value.oneCell']) (w.heap.size + 1 + 1) W0 ((Below.refl (w.heap.size + 1 + 1) W0).drew) (Nat.le_refl _) ?_; intro w4 hg4 hb4)
  have HB4 : Hid (Below w.heap.size w w4) := HB0.out.trans (hb4.mono (by omega))
  have H14 : Hid (Box w4 w.heap.size #[.pointer (some ⟨wb, 0, none⟩)]) := H1.out.below hb4 (by omega)
  have H24 : Hid (Box w4 (w.heap.size + 1) #[.slice (some ⟨bA, oA, none⟩) coal.length c1]) := H2.out.below hb4 (by omega)
  have H34 : Hid (Box w4 (w.heap.size + 1 + 1) (nvs coal)) := fun o => by
    have := hg4.out
    rw [splice_nv coal (by omega)] at this
    simp [World.cell?, this]
  have HN4 : Hid (w.heap.size + 3 ≤ w4.heap.size) := by have := (Array.getElem?_eq_some_iff.1 hg4.out).1; unfold Hid; omega
  have HM4 : Hid (w4.heap[m]? = some (.map es clock)) := (HB4.out.block _ HML.out).trans HMB.out
  have HW4 : Hid (CW c q B wb m base v w4) := HW.out.up HB4.out
  have k0 : w4.cell? ⟨w.heap.size, 0, none⟩ = some (.pointer (some ⟨wb, 0, none⟩)) := H14.out 0
  have k12 : w4.cell? ⟨wb, 12, none⟩ = some (.map (some m)) := by simp [World.cell?, HW4.out.wk.cells]
  have x0 : w4.cell? ⟨w.heap.size + 1 + 1, 0, none⟩ = some (.int .i64 (nth coal 0)) := H34.out 0
  have x1 : w4.cell? ⟨w.heap.size + 1 + 1, 1, none⟩ = some (.int .i64 (nth coal 1)) := H34.out 1
  have x2 : w4.cell? ⟨w.heap.size + 1 + 1, 2, none⟩ = some (.int .i64 (nth coal 2)) := H34.out 2
  have x3 : w4.cell? ⟨w.heap.size + 1 + 1, 3, none⟩ = some (.int .i64 (nth coal 3)) := H34.out 3
  have x4 : w4.cell? ⟨w.heap.size + 1 + 1, 4, none⟩ = some (.int .i64 (nth coal 4)) := H34.out 4
  have HP : Hid (∀ d, (plus w4 d).heap[m]? = some (.map es clock)) := fun d => (plus_heap w4 d m (Array.getElem?_eq_some_iff.1 HM4.out).1).trans HM4.out
  clear hb4 hg4 k2 hsl
  by_cases hyes : ∃ e ∈ es.toList, e.key = nv coal
  · have hlk : ∀ d, (Instr.lookup 181 (.map (some m)) (nv coal) true).run Tryz.prog (plus w4 d) = .ok (.tuple #[.bool (sureN c coal), .bool true]) (plus w4 d) := fun d => look_yesB HF5.out (HP.out d) HMES.out HS5.out hyes
    clear hyes
    go_wp2
    refine wp_region_plus (by kernel_rfl) ?_
    repeat (go_big_quiet_step (fail))
    refine wpQuiet_nil ?_
    rintro _ ⟨d, rfl⟩
    clear hlk
    go_wp2
    go_ret
    have hbl : Below w.heap.size w (plus w4 d) := bl_pl HB4.out d
    exact ⟨rfl, HW.out.up hbl, Ext.of_below hbl⟩
  · have hlk : ∀ d, (Instr.lookup 181 (.map (some m)) (nv coal) true).run Tryz.prog (plus w4 d) = .ok (.tuple #[.bool false, .bool false]) (plus w4 d) := fun d => look_noB HF5.out (HP.out d) HMES.out HS5.out hyes
    have HNO : Hid (∀ e ∈ es.toList, e.key ≠ nv coal) := fun e he hk => hyes ⟨e, he, hk⟩
    clear hyes
    go_wp2
    refine wp_region_plus (by kernel_rfl) ?_
    repeat (go_big_quiet_step (fail))
    refine wpQuiet_nil ?_
    rintro w5 ⟨d, hd⟩
    have HB45 : Hid (Below w4.heap.size w4 w5) := by rw [hd]; exact bl_pl (Below.refl _ _) d
    clear hd hlk k12 x0 x1 x2 x3 x4 k0
    have HW5 : Hid (CW c q B wb m base v w5) := HW4.out.up HB45.out
    have H15 : Hid (Box w5 w.heap.size #[.pointer (some ⟨wb, 0, none⟩)]) := H14.out.bl (by simp) HB45.out
    have H25 : Hid (Box w5 (w.heap.size + 1) #[.slice (some ⟨bA, oA, none⟩) coal.length c1]) := H24.out.bl (by simp) HB45.out
    have H35 : Hid (Box w5 (w.heap.size + 1 + 1) (nvs coal)) := H34.out.bl (by simp) HB45.out
    have HB5 : Hid (Below w.heap.size w w5) := bl_tr HB4.out HB45.out
    obtain ⟨A, kk, rfl, hsc, -⟩ := own_scenes HW5.out.wk.row
    have HSC := Lib.hid hsc
    have k0 : w5.cell? ⟨w.heap.size, 0, none⟩ = some (.pointer (some ⟨wb, 0, none⟩)) := H15.out 0
    have k11 : w5.cell? ⟨wb, 11, none⟩ = some (.slice A (truthsC c).length kk) := by simp [World.cell?, HW5.out.wk.cells]
    clear hsc
    go_wp2_with (first | (go_at_call 169; go_loud (refine (allS_c 170 #[] #[.pointer (some ⟨w.heap.size, 0, none⟩), .pointer (some ⟨w.heap.size + 1, 0, none⟩)] (enters_of Tryz.func170 (by kernel_rfl) rfl) (fun j => keptA c coal (scN (truthsC c) j)) (truthsC c) A kk w5 (by have := truths_len HW.out.ok; omega) HSC.out (fun j hj W hW => sureK_c c q (truthsC c) wb m base _ coal (some ⟨bA, oA, none⟩) c1 w.heap.size (w.heap.size + 1) (scN (truthsC c) j) W (HW5.out.up hW).copAt (HW5.out.up hW).wk (plays_of HW.out.ok (truths_sc hl0 j hj) hl HW.out.ok.wl HB.out (fun i => by have := HW.out.ok.wb i; omega)) (HX.out.up (bl_tr HB5.out hW)) (H15.out.bl (by simp) hW) (H25.out.bl (by simp) hW))).mono ?_; rintro e w6 ⟨rfl, hb6⟩; have HB56 := Lib.hid hb6; clear hb6)))
    have HB6 : Hid (Below w.heap.size w w6) := bl_tr HB5.out HB56.out
    have HSN : Hid (allN (fun j => keptA c coal (scN (truthsC c) j)) (truthsC c).length = sureN c coal) := rfl
    rw [HSN.out]
    have hmb6 : w6.drew.heap[m]? = some (.map es clock) := (HB6.out.block _ HML.out).trans HMB.out
    obtain ⟨w8, hupd, hmem, hext⟩ := run_updB hmb6 HMES.out HS5.out HNO.out
    have HMEM := Lib.hid hmem
    have HEXT := Lib.hid hext
    have H16 : Box w6 w.heap.size #[.pointer (some ⟨wb, 0, none⟩)] := H15.out.bl (by simp) HB56.out
    have H36 : Box w6 (w.heap.size + 1 + 1) (nvs coal) := H35.out.bl (by simp) HB56.out
    have y0 : w6.cell? ⟨w.heap.size, 0, none⟩ = some (.pointer (some ⟨wb, 0, none⟩)) := H16 0
    have y12 : w6.cell? ⟨wb, 12, none⟩ = some (.map (some m)) := by simp [World.cell?, (HW5.out.up HB56.out).wk.cells]
    have x0 : w6.cell? ⟨w.heap.size + 1 + 1, 0, none⟩ = some (.int .i64 (nth coal 0)) := H36 0
    have x1 : w6.cell? ⟨w.heap.size + 1 + 1, 1, none⟩ = some (.int .i64 (nth coal 1)) := H36 1
    have x2 : w6.cell? ⟨w.heap.size + 1 + 1, 2, none⟩ = some (.int .i64 (nth coal 2)) := H36 2
    have x3 : w6.cell? ⟨w.heap.size + 1 + 1, 3, none⟩ = some (.int .i64 (nth coal 3)) := H36 3
    have x4 : w6.cell? ⟨w.heap.size + 1 + 1, 4, none⟩ = some (.int .i64 (nth coal 4)) := H36 4
    have HFIN : Hid (CW c q B wb m base (.slice A (truthsC c).length kk) w8 ∧ Ext [m] w w8) := ⟨((HW5.out.up HB56.out).up (bl_dr (Below.refl _ _))).ext HEXT.out HMEM.out, (Ext.of_below (bl_dr HB6.out)).trans HEXT.out⟩
    have hws := HB56.out.size
    have hw45 := HB45.out.size
    have hn4 := HN4.out
    have hwm := HWBM.out
    have hml := HML.out
    have z0 := (HEXT.out.cell (w := w6.drew) (b := w.heap.size) (o := 0) (by show _ < w6.heap.size; omega) (by simp; omega)).trans y0
    have z12 := (HEXT.out.cell (w := w6.drew) (b := wb) (o := 12) (by show _ < w6.heap.size; omega) (by simp; omega)).trans y12
    have z1 := (HEXT.out.cell (w := w6.drew) (b := w.heap.size + 1 + 1) (o := 0) (by show _ < w6.heap.size; omega) (by simp; omega)).trans x0
    have z2 := (HEXT.out.cell (w := w6.drew) (b := w.heap.size + 1 + 1) (o := 1) (by show _ < w6.heap.size; omega) (by simp; omega)).trans x1
    have z3 := (HEXT.out.cell (w := w6.drew) (b := w.heap.size + 1 + 1) (o := 2) (by show _ < w6.heap.size; omega) (by simp; omega)).trans x2
    have z4 := (HEXT.out.cell (w := w6.drew) (b := w.heap.size + 1 + 1) (o := 3) (by show _ < w6.heap.size; omega) (by simp; omega)).trans x3
    have z5 := (HEXT.out.cell (w := w6.drew) (b := w.heap.size + 1 + 1) (o := 4) (by show _ < w6.heap.size; omega) (by simp; omega)).trans x4
    clear hmem hext hmb6 k0 k11 H16 H36 hws hw45 hn4 hwm hml
    go_region_held3 (fun w' => w'.cell? ⟨w.heap.size, 0, none⟩ = some (.pointer (some ⟨wb, 0, none⟩)) ∧ w'.cell? ⟨wb, 12, none⟩ = some (.map (some m)) ∧ w'.cell? ⟨w.heap.size + 1 + 1, 0, none⟩ = some (.int .i64 (nth coal 0)) ∧ w'.cell? ⟨w.heap.size + 1 + 1, 1, none⟩ = some (.int .i64 (nth coal 1)) ∧ w'.cell? ⟨w.heap.size + 1 + 1, 2, none⟩ = some (.int .i64 (nth coal 2)) ∧ w'.cell? ⟨w.heap.size + 1 + 1, 3, none⟩ = some (.int .i64 (nth coal 3)) ∧ w'.cell? ⟨w.heap.size + 1 + 1, 4, none⟩ = some (.int .i64 (nth coal 4))) (first | assumption | go_keep) (fail)
    go_wp2
    go_ret
    exact ⟨rfl, HFIN.out⟩
end Go.Proofs.YtpgnplmjfhdncaaGreat
/- copper's Least: the region that goes on with one hour's shovels; the inner function. -/
namespace Go.Proofs.YtpgnplmjfhdncaaGreat
open Go.RowKit
set_option linter.unusedVariables false
structure J146 (g gw b0 gc : Nat) (a : Option Addr) (k : Nat) (out : List Int) (h mm : Int) (R : Bool → World → Prop) (W : World) (A1 : Option Addr) (K1 : Nat) (A2 : Option Addr) (K2 : Nat) (bb : Bool) (done : Nat → Bool) (s : Nat → Value) (w : World) : Prop where
  gr : done 9 = false → Below W.heap.size W w
  rr : done 9 = true → R bb w
  a0 : done 0 = true → s 33 = .func (.func 146) #[] #[.pointer (some ⟨b0, 0, none⟩), .pointer (some ⟨g, 0, none⟩), .pointer (some ⟨gw, 0, none⟩), .pointer (some ⟨gc, 0, none⟩)]
  a1 : done 1 = true → s 34 = .slice a out.length k
  a2 : done 2 = true → s 35 = .slice A1 out.length K1
  a3 : done 3 = true → s 36 = .int .i64 h
  a5 : done 5 = true → s 38 = .slice A2 (out.length + 1) K2
  a6 : done 6 = true → s 39 = .int .i64 mm
  a7 : done 7 = true → s 40 = .int .i64 h
  a8 : done 8 = true → s 41 = .int .i64 (mm - h)
  a9 : done 9 = true → s 42 = .bool bb
  fc : done 2 = true → done 5 = false → w.ownsRow W.heap.size 3 1 (.slice A1 out.length K1) out.length (ints out)
  bu : done 4 = true → done 5 = false → ∃ b, s 37 = .slice (some ⟨b, 0, none⟩) 1 1 ∧ W.heap.size ≤ b ∧ w.heap[b]? = some (.cells #[.int .i64 h] 3 (0, 0))
  fa : done 5 = true → done 9 = false → w.ownsRow W.heap.size 3 1 (.slice A2 (out.length + 1) K2) (out.length + 1) (ints (out ++ [h]))
def I146 (a0 : Act) (g gw b0 gc : Nat) (a : Option Addr) (k : Nat) (out : List Int) (h mm : Int) (R : Bool → World → Prop) (W : World) (done : Nat → Bool) (ac : Act) (w : World) : Prop :=
  ∃ (A1 : Option Addr) (K1 : Nat) (A2 : Option Addr) (K2 : Nat) (bb : Bool), Fr 33 42 a0 ac ∧ J146 g gw b0 gc a k out h mm R W A1 K1 A2 K2 bb done (slots ac) w
theorem I146.put {a0 : Act} {g gw b0 gc : Nat} {a : Option Addr} {k : Nat} {out : List Int} {h mm : Int} {R : Bool → World → Prop} {W : World} {A1 : Option Addr} {K1 : Nat} {A2 : Option Addr} {K2 : Nat} {bb : Bool} {done : Nat → Bool} {ac : Act} {w : World} (j : Nat) (u : Value)
    (hF : Fr 33 42 a0 ac) (h0 : 42 < a0.tmps.size) (h1 : 33 ≤ j) (h2 : j ≤ 42) (hJ : J146 g gw b0 gc a k out h mm R W A1 K1 A2 K2 bb done (upd (slots ac) j u) w) :
    I146 a0 g gw b0 gc a k out h mm R W done { tmps := ac.tmps.setIfInBounds j u, defers := ac.defers } w :=
  ⟨A1, K1, A2, K2, bb, hF.put j u h1 h2 h0, by rw [slots_put ac j u (by rw [hF.sz]; omega)]; exact hJ⟩
set_option maxRecDepth 100000 in
set_option maxHeartbeats 8000000 in
theorem r146 (ops : List Oper) (hops : Tryz.f146.body.bind (regionIn 7) = some ops) {Q : Exit → Act → World → Prop} (a0 : Act) (g gw b0 gc : Nat) (a : Option Addr) (k : Nat) (out : List Int) (h mm : Int) (R : Bool → World → Prop) (W : World)
    (hsz : a0.tmps.size = 44) (s5 : slots a0 5 = .pointer (some ⟨gc, 0, none⟩)) (s0 : slots a0 0 = .slice a out.length k) (s9 : slots a0 9 = .int .i64 h) (s1 : slots a0 1 = .int .i64 mm)
    (hch : Box W gc #[.func (.func 146) #[] #[.pointer (some ⟨b0, 0, none⟩), .pointer (some ⟨g, 0, none⟩), .pointer (some ⟨gw, 0, none⟩), .pointer (some ⟨gc, 0, none⟩)]]) (hh0 : 0 ≤ h) (hh9 : h ≤ 1000) (hm0 : 0 ≤ mm) (hm9 : mm ≤ 1000) (hpl : out.length ≤ 1000)
    (hc101 : ∀ w, Below W.heap.size W w → Calls Tryz.prog 101 #[.slice a out.length k] w fun e w' => ∃ A1 K1, e = .returned (.slice A1 out.length K1) ∧ w'.ownsRow w.heap.size 3 1 (.slice A1 out.length K1) out.length (ints out) ∧ Below w.heap.size w w')
    (hcr : ∀ A2 K2 w, Below W.heap.size W w → w.ownsRow W.heap.size 3 1 (.slice A2 (out.length + 1) K2) (out.length + 1) (ints (out ++ [h])) → Calls Tryz.prog 146 #[.slice A2 (out.length + 1) K2, .int .i64 (mm - h), .pointer (some ⟨b0, 0, none⟩), .pointer (some ⟨g, 0, none⟩), .pointer (some ⟨gw, 0, none⟩), .pointer (some ⟨gc, 0, none⟩)] w fun e w' => ∃ bb, e = .returned (.bool bb) ∧ R bb w')
    (hQ : ∀ ac w bb, Fr 33 42 a0 ac → slots ac 42 = .bool bb → R bb w → Q .normal ac w) :
    (Code.region 7 ops.toArray true).wp Tryz.prog Q a0 W := by
  simp only [Tryz.f146, regionIn, Option.bind_some] at hops
  simp at hops
  subst hops
  have F := Lib.hid info3
  refine wp_region_inv (I146 a0 g gw b0 gc a k out h mm R W) tryz_mixed (by kernel_rfl) ⟨none, 0, none, 0, true, Fr.refl _ _ _, ?_⟩ ?_ ?_
  · exact { gr := fun _ => bl_dr (Below.refl _ _), rr := fun h => (by cases h), fc := fun h => (by cases h), bu := fun h => (by cases h), fa := fun h => (by cases h), a0 := fun h => (by cases h), a1 := fun h => (by cases h), a2 := fun h => (by cases h), a3 := fun h => (by cases h), a5 := fun h => (by cases h), a6 := fun h => (by cases h), a7 := fun h => (by cases h), a8 := fun h => (by cases h), a9 := fun h => (by cases h) }
  · refine ⟨?_, ?_, ?_, ?_, ?_, ?_, ?_, ?_, ?_, ?_, trivial⟩
    · rintro done ac w hcl hdn hdep ⟨A1, K1, A2, K2, bb, hF, hJ⟩ K hK
      have y5 : ac.tmps[5]?.getD undef = .pointer (some ⟨gc, 0, none⟩) := (hF.same 5 (by omega)).trans s5
      have h9 : done 9 = false := by
        cases h' : done 9 with
        | false => rfl
        | true => have := hcl 9 _ rfl h' ⟨0, .data⟩ (by simp) rfl; rw [hdn] at this; cases this
      have c0 : w.cell? ⟨gc, 0, none⟩ = some (.func (.func 146) #[] #[.pointer (some ⟨b0, 0, none⟩), .pointer (some ⟨g, 0, none⟩), .pointer (some ⟨gw, 0, none⟩), .pointer (some ⟨gc, 0, none⟩)]) := ((hJ.gr h9).cell (World.block_lt_of_cell? W _ (hch 0))).trans (hch 0)
      clear hdep hcl
      go_simp
      exact hK _ _ (I146.put 33 _ hF (by omega) (by decide) (by decide) { hJ with a0 := fun _ => rfl })
    · rintro done ac w hcl hdn hdep ⟨A1, K1, A2, K2, bb, hF, hJ⟩ K hK
      have y0 : ac.tmps[0]?.getD undef = .slice a out.length k := (hF.same 0 (by omega)).trans s0
      have h2 : done 2 = false := by
        cases h' : done 2 with
        | false => rfl
        | true => have := hcl 2 _ rfl h' ⟨1, .data⟩ (by simp) rfl; rw [hdn] at this; cases this
      have h5 : done 5 = false := by
        cases h' : done 5 with
        | false => rfl
        | true => have := hcl 5 _ rfl h' ⟨2, .data⟩ (by simp) rfl; rw [h2] at this; cases this
      have h9 : done 9 = false := by
        cases h' : done 9 with
        | false => rfl
        | true => have := hcl 9 _ rfl h' ⟨5, .data⟩ (by simp) rfl; rw [h5] at this; cases this
      clear hdep hcl
      go_simp
      exact hK _ _ (I146.put 34 _ hF (by omega) (by decide) (by decide) { hJ with a1 := fun _ => rfl })
    · rintro done ac w hcl hdn hdep ⟨A1, K1, A2, K2, bb, hF, hJ⟩ K hK
      have x1 : ac.tmps[34]?.getD undef = .slice a out.length k := hJ.a1 (hdep ⟨1, .data⟩ (by simp) rfl)
      have h5 : done 5 = false := by
        cases h' : done 5 with
        | false => rfl
        | true => have := hcl 5 _ rfl h' ⟨2, .data⟩ (by simp) rfl; rw [hdn] at this; cases this
      have h9 : done 9 = false := by
        cases h' : done 9 with
        | false => rfl
        | true => have := hcl 9 _ rfl h' ⟨5, .data⟩ (by simp) rfl; rw [h5] at this; cases this
      clear hdep hcl
      go_simp
      refine (hc101 w (hJ.gr h9)).mono ?_
      rintro e w1 ⟨A1', K1', rfl, hr, hb⟩
      have hw := (hJ.gr h9).size
      exact hK _ _ (I146.put (A1 := A1') (K1 := K1') 35 _ hF (by omega) (by decide) (by decide) { hJ with gr := fun _ => (hJ.gr h9).trans (hb.mono hw), rr := (fun h' => (by have h2 : done 9 = true := h'; rw [h9] at h2; cases h2)), a2 := fun _ => rfl, fc := fun _ _ => own_base hr hw, bu := fun h1 h2 => (let ⟨b, e1, e2, e3⟩ := hJ.bu h1 h2; ⟨b, e1, e2, (hb.block _ (Array.getElem?_eq_some_iff.1 e3).1).trans e3⟩), fa := fun h' _ => (by have h2 : done 5 = true := h'; rw [h5] at h2; cases h2) })
    · rintro done ac w hcl hdn hdep ⟨A1, K1, A2, K2, bb, hF, hJ⟩ K hK
      have y9 : ac.tmps[9]?.getD undef = .int .i64 h := (hF.same 9 (by omega)).trans s9
      have h4 : done 4 = false := by
        cases h' : done 4 with
        | false => rfl
        | true => have := hcl 4 _ rfl h' ⟨3, .data⟩ (by simp) rfl; rw [hdn] at this; cases this
      have h5 : done 5 = false := by
        cases h' : done 5 with
        | false => rfl
        | true => have := hcl 5 _ rfl h' ⟨4, .data⟩ (by simp) rfl; rw [h4] at this; cases this
      have h9 : done 9 = false := by
        cases h' : done 9 with
        | false => rfl
        | true => have := hcl 9 _ rfl h' ⟨5, .data⟩ (by simp) rfl; rw [h5] at this; cases this
      clear hdep hcl
      go_simp
      exact hK _ _ (I146.put 36 _ hF (by omega) (by decide) (by decide) { hJ with a3 := fun _ => rfl })
    · rintro done ac w hcl hdn hdep ⟨A1, K1, A2, K2, bb, hF, hJ⟩ K hK
      have x3 : ac.tmps[36]?.getD undef = .int .i64 h := hJ.a3 (hdep ⟨3, .data⟩ (by simp) rfl)
      have h5 : done 5 = false := by
        cases h' : done 5 with
        | false => rfl
        | true => have := hcl 5 _ rfl h' ⟨4, .data⟩ (by simp) rfl; rw [hdn] at this; cases this
      have h9 : done 9 = false := by
        cases h' : done 9 with
        | false => rfl
        | true => have := hcl 9 _ rfl h' ⟨5, .data⟩ (by simp) rfl; rw [h5] at this; cases this
      clear hdep hcl
      go_simp
      have hw := (hJ.gr h9).size
      exact hK _ _ (I146.put 37 _ hF (by omega) (by decide) (by decide) { hJ with gr := fun _ => bl_al (hJ.gr h9) _, rr := (fun h' => (by have h2 : done 9 = true := h'; rw [h9] at h2; cases h2)), fc := fun h1 h2 => (hJ.fc h1 h2).alloc _, bu := fun _ _ => ⟨w.heap.size, rfl, hw, World.alloc_heap_new _ _⟩, fa := fun h' _ => (by have h2 : done 5 = true := h'; rw [h5] at h2; cases h2) })
    · rintro done ac w hcl hdn hdep ⟨A1, K1, A2, K2, bb, hF, hJ⟩ K hK
      have x2 : ac.tmps[35]?.getD undef = .slice A1 out.length K1 := hJ.a2 (hdep ⟨2, .data⟩ (by simp) rfl)
      have h9 : done 9 = false := by
        cases h' : done 9 with
        | false => rfl
        | true => have := hcl 9 _ rfl h' ⟨5, .data⟩ (by simp) rfl; rw [hdn] at this; cases this
      obtain ⟨b, hb, hbl, hbh⟩ := hJ.bu (hdep ⟨4, .data⟩ (by simp) rfl) hdn
      have hbs : ac.tmps[37]?.getD undef = .slice (some ⟨b, 0, none⟩) 1 1 := hb
      have hr9 := hJ.fc (hdep ⟨2, .data⟩ (by simp) rfl) hdn
      have hw := (hJ.gr h9).size
      rw [if_pos (show Region.wanted _ _ = true from rfl)]
      refine wp_append_k W.heap.size _ _ 22 3 _ 1 8 rfl Tryz.underlying22 F.out rfl (by decide) (by decide) (.slice A1 out.length K1) out.length (ints out) [.int .i64 h] b (by simp [Act.eval, x2]) (by simp [Act.eval, hbs]) hbh rfl (by simp [Value.oneCell']) hr9 (by omega) (by omega) ?_
      intro u w1 hown hg hat
      obtain ⟨A2', K2', rfl⟩ := own_shape6 hown
      have hgr : Below W.heap.size W w1 := bl_gr (hJ.gr h9) hg (fun k hk => (hr9.lt k hk).1)
      exact hK _ _ (I146.put (A2 := A2') (K2 := K2') 38 _ hF (by omega) (by decide) (by decide) { hJ with gr := fun _ => hgr, rr := (fun h' => (by have h2 : done 9 = true := h'; rw [h9] at h2; cases h2)), a5 := fun _ => rfl, fc := fun _ h' => (by cases h'), bu := fun _ h' => (by cases h'), fa := fun _ _ => (by rw [ints_snoc]; exact hown) })
    · rintro done ac w hcl hdn hdep ⟨A1, K1, A2, K2, bb, hF, hJ⟩ K hK
      have y1 : ac.tmps[1]?.getD undef = .int .i64 mm := (hF.same 1 (by omega)).trans s1
      have h8 : done 8 = false := by
        cases h' : done 8 with
        | false => rfl
        | true => have := hcl 8 _ rfl h' ⟨6, .data⟩ (by simp) rfl; rw [hdn] at this; cases this
      have h9 : done 9 = false := by
        cases h' : done 9 with
        | false => rfl
        | true => have := hcl 9 _ rfl h' ⟨8, .data⟩ (by simp) rfl; rw [h8] at this; cases this
      clear hdep hcl
      go_simp
      exact hK _ _ (I146.put 39 _ hF (by omega) (by decide) (by decide) { hJ with a6 := fun _ => rfl })
    · rintro done ac w hcl hdn hdep ⟨A1, K1, A2, K2, bb, hF, hJ⟩ K hK
      have y9 : ac.tmps[9]?.getD undef = .int .i64 h := (hF.same 9 (by omega)).trans s9
      have h8 : done 8 = false := by
        cases h' : done 8 with
        | false => rfl
        | true => have := hcl 8 _ rfl h' ⟨7, .data⟩ (by simp) rfl; rw [hdn] at this; cases this
      have h9 : done 9 = false := by
        cases h' : done 9 with
        | false => rfl
        | true => have := hcl 9 _ rfl h' ⟨8, .data⟩ (by simp) rfl; rw [h8] at this; cases this
      clear hdep hcl
      go_simp
      exact hK _ _ (I146.put 40 _ hF (by omega) (by decide) (by decide) { hJ with a7 := fun _ => rfl })
    · rintro done ac w hcl hdn hdep ⟨A1, K1, A2, K2, bb, hF, hJ⟩ K hK
      have x6 : ac.tmps[39]?.getD undef = .int .i64 mm := hJ.a6 (hdep ⟨6, .data⟩ (by simp) rfl)
      have x7 : ac.tmps[40]?.getD undef = .int .i64 h := hJ.a7 (hdep ⟨7, .data⟩ (by simp) rfl)
      have h9 : done 9 = false := by
        cases h' : done 9 with
        | false => rfl
        | true => have := hcl 9 _ rfl h' ⟨8, .data⟩ (by simp) rfl; rw [hdn] at this; cases this
      have hw1 : IntKind.i64.wrap (mm - h) = mm - h := IntWalk.i64_in _ (by omega)
      clear hdep hcl
      go_simp
      exact hK _ _ (I146.put 41 _ hF (by omega) (by decide) (by decide) { hJ with a8 := fun _ => rfl })
    · rintro done ac w hcl hdn hdep ⟨A1, K1, A2, K2, bb, hF, hJ⟩ K hK
      have x0 : ac.tmps[33]?.getD undef = .func (.func 146) #[] #[.pointer (some ⟨b0, 0, none⟩), .pointer (some ⟨g, 0, none⟩), .pointer (some ⟨gw, 0, none⟩), .pointer (some ⟨gc, 0, none⟩)] := hJ.a0 (hdep ⟨0, .data⟩ (by simp) rfl)
      have x5 : ac.tmps[38]?.getD undef = .slice A2 (out.length + 1) K2 := hJ.a5 (hdep ⟨5, .data⟩ (by simp) rfl)
      have x8 : ac.tmps[41]?.getD undef = .int .i64 (mm - h) := hJ.a8 (hdep ⟨8, .data⟩ (by simp) rfl)
      have hr12 := hJ.fa (hdep ⟨5, .data⟩ (by simp) rfl) hdn
      have d12 : done 5 = true := hdep ⟨5, .data⟩ (by simp) rfl
      clear hdep hcl
      go_simp
      refine (hcr A2 K2 w (hJ.gr hdn) hr12).mono ?_
      rintro e w1 ⟨bb', rfl, hR⟩
      exact hK _ _ (I146.put (bb := bb') 42 _ hF (by omega) (by decide) (by decide) { hJ with gr := fun h' => (by cases h'), rr := fun _ => hR, a9 := fun _ => rfl, fc := fun _ h' => (by have h2 : done 5 = false := h'; rw [d12] at h2; cases h2), bu := fun _ h' => (by have h2 : done 5 = false := h'; rw [d12] at h2; cases h2), fa := fun _ h' => (by cases h') })
  · rintro done ac w hd ⟨A1, K1, A2, K2, bb, hF, hJ⟩
    exact hQ ac w bb hF (hJ.a9 (hd 9 (by decide))) (hJ.rr (hd 9 (by decide)))
theorem Fr.lit44 {a0 a : Act} {v42 : Value} (h : Fr 33 42 a0 a) (hs : a0.tmps.size = 44) (h42 : slots a 42 = v42) : ∃ f : Nat → Value, a = { tmps := #[slots a0 0, slots a0 1, slots a0 2, slots a0 3, slots a0 4, slots a0 5, slots a0 6, slots a0 7, slots a0 8, slots a0 9, slots a0 10, slots a0 11, slots a0 12, slots a0 13, slots a0 14, slots a0 15, slots a0 16, slots a0 17, slots a0 18, slots a0 19, slots a0 20, slots a0 21, slots a0 22, slots a0 23, slots a0 24, slots a0 25, slots a0 26, slots a0 27, slots a0 28, slots a0 29, slots a0 30, slots a0 31, slots a0 32, f 33, f 34, f 35, f 36, f 37, f 38, f 39, f 40, f 41, v42, slots a0 43], defers := a0.defers } := by
  refine ⟨slots a, ?_⟩
  have := h.lit
  rw [hs] at this
  subst h42
  exact this
/-- The first coal of further hours with so many shovels together, that is sure. -/
def leastF (c : Cop) : Nat → List Int → Nat → Option (List Int)
  | 0, coal, many => if many = 0 ∧ sureN c coal = true then some coal else none
  | d + 1, coal, many => (List.range ((min c.shovels (many : Int) + 1).toNat)).findSome? fun (n : Nat) => leastF c d (coal ++ [(n : Int)]) (many - n)
/-- Least at work: the coppers in b0, found in g, the work's address in gw, the function in gc. -/
structure LeastAt (c : Cop) (q : CA) (B wb m base : Nat) (v : Value) (b0 g gw gc : Nat) (w : World) : Prop where
  cw : CW c q B wb m base v w
  rm : Box w b0 (copCs c q)
  fnd : ∃ u, w.heap[g]? = some (.cells #[u] 22 (0, 0))
  pw : Box w gw #[.pointer (some ⟨wb, 0, none⟩)]
  pc : Box w gc #[.func (.func 146) #[] #[.pointer (some ⟨b0, 0, none⟩), .pointer (some ⟨g, 0, none⟩), .pointer (some ⟨gw, 0, none⟩), .pointer (some ⟨gc, 0, none⟩)]]
/-- The blocks are apart; all stand below N + 2. -/
structure LeastSep (B wb m b0 g gw gc N : Nat) (v : Value) : Prop where
  s1 : m ≠ b0
  s2 : m ≠ g
  s3 : m ≠ gw
  s4 : m ≠ gc
  s5 : g ≠ wb
  s6 : g ≠ b0
  s7 : g ≠ gw
  s8 : g ≠ gc
  s9 : B ≤ g
  s10 : m < N + 2
  s11 : g < N + 2
  s12 : some g ≠ v.ownBlock
section
variable {c : Cop} {q : CA} {B wb m base b0 g gw gc N : Nat} {v : Value} {w W : World}
theorem LeastAt.up (h : LeastAt c q B wb m base v b0 g gw gc w) (hb : Below w.heap.size w W) : LeastAt c q B wb m base v b0 g gw gc W := by
  obtain ⟨u, hv⟩ := h.fnd
  exact ⟨h.cw.up hb, h.rm.bl (by simp) hb, ⟨u, (hb.block _ (Array.getElem?_eq_some_iff.1 hv).1).trans hv⟩, h.pw.bl (by simp) hb, h.pc.bl (by simp) hb⟩
theorem LeastAt.sure (h : LeastAt c q B wb m base v b0 g gw gc w) (hs : LeastSep B wb m b0 g gw gc N v) (hw : CW c q B wb m base v W) (he : Ext [m] w W) : LeastAt c q B wb m base v b0 g gw gc W := by
  obtain ⟨u, hv⟩ := h.fnd
  have := hs.s1; have := hs.s2; have := hs.s3; have := hs.s4
  exact ⟨hw, h.rm.ex (by simp) he (by simp; omega), ⟨u, (he.block _ (Array.getElem?_eq_some_iff.1 hv).1 (by simp; omega)).trans hv⟩, h.pw.ex (by simp) he (by simp; omega), h.pc.ex (by simp) he (by simp; omega)⟩
theorem CW.put (h : CW c q B wb m base v w) (hg : Grown (fun k => k = g) w W) (h1 : g ≠ m) (h2 : g ≠ wb) (h3 : B ≤ g) (h4 : some g ≠ v.ownBlock) : CW c q B wb m base v W := by
  obtain ⟨es, clock, a1, a2⟩ := h.memo
  exact ⟨h.ok, ⟨(hg.block _ h.lt (by omega)).trans h.wk.cells, own_grownP h.wk.row hg (fun k hk e => h4 (by rw [← e]; exact hk))⟩, ⟨es, clock, (hg.block _ (Array.getElem?_eq_some_iff.1 a1).1 (by omega)).trans a1, a2⟩, h.at_.below (hg.below (by have := h.lt; have := h.bm; have := h.wbm; omega) (fun k hk => by omega)), h.bm, h.wbm, h.bas⟩
theorem LeastAt.put (h : LeastAt c q B wb m base v b0 g gw gc w) (hs : LeastSep B wb m b0 g gw gc N v) (u : Value) : LeastAt c q B wb m base v b0 g gw gc (w.setCell ⟨g, 0, none⟩ u) ∧ (w.setCell ⟨g, 0, none⟩ u).heap[g]? = some (.cells #[u] 22 (0, 0)) := by
  obtain ⟨u0, hu⟩ := h.fnd
  have hg : Grown (fun k => k = g) w (w.setCell ⟨g, 0, none⟩ u) := (Grown.refl (fun k => k = g) w).setCell (p := ⟨g, 0, none⟩) (.inl rfl) _
  have hn : (w.setCell ⟨g, 0, none⟩ u).heap[g]? = some (.cells #[u] 22 (0, 0)) := by rw [heap_setCell_same _ _ _ _ _ _ hu]; rfl
  have := hs.s2; have := hs.s5; have := hs.s6; have := hs.s7; have := hs.s8; have := hs.s9
  exact ⟨⟨h.cw.put hg (by omega) (by omega) (by omega) hs.s12, hg.box h.rm (h.rm.lt (by simp)) (by omega), ⟨u, hn⟩, hg.box h.pw (h.pw.lt (by simp)) (by omega), hg.box h.pc (h.pc.lt (by simp)) (by omega)⟩, hn⟩
end
/-- What the inner function comes to. -/
def LeastR (c : Cop) (q : CA) (B wb m base : Nat) (v : Value) (b0 g gw gc : Nat) (W : World) (res : Option (List Int)) (bb : Bool) (W' : World) : Prop :=
  bb = res.isSome ∧ LeastAt c q B wb m base v b0 g gw gc W' ∧ Ext [m, g] W W' ∧ ∀ x, res = some x → ∃ A K, W'.heap[g]? = some (.cells #[.slice A x.length K] 22 (0, 0)) ∧ IntsAt W' W'.heap.size A x
end Go.Proofs.YtpgnplmjfhdncaaGreat
/- copper's Least: its inner function, all of it. -/
namespace Go.Proofs.YtpgnplmjfhdncaaGreat
open Go.RowKit
set_option linter.unusedVariables false
theorem app_bd {coal : List Int} {n K : Int} (hc : ∀ j, 0 ≤ nth coal j ∧ nth coal j ≤ K) (h0 : 0 ≤ n) (h3 : n ≤ K) (j : Nat) : 0 ≤ nth (coal ++ [n]) j ∧ nth (coal ++ [n]) j ≤ K := by
  rcases Nat.lt_trichotomy j coal.length with h | h | h
  · rw [nth_app_lt h]; exact hc j
  · subst h; rw [nth_app_eq]; omega
  · rw [nth_out _ _ (by simp; omega)]; omega
set_option maxRecDepth 100000 in
set_option maxHeartbeats 8000000 in
theorem least_rec (c : Cop) (q : CA) (B wb m base : Nat) (v : Value) (b0 g gw gc N : Nat) (hs : LeastSep B wb m b0 g gw gc N v) :
    ∀ (d : Nat) (coal : List Int) (many : Nat) (a : Option Addr) (k : Nat) (w : World), LeastAt c q B wb m base v b0 g gw gc w → N + 2 ≤ w.heap.size → PlanP N a coal w → (coal.length : Int) + d = c.last + 1 → (∀ j, 0 ≤ nth coal j ∧ nth coal j ≤ 3) → many ≤ 100 →
    Calls Tryz.prog 146 #[.slice a coal.length k, .int .i64 many, .pointer (some ⟨b0, 0, none⟩), .pointer (some ⟨g, 0, none⟩), .pointer (some ⟨gw, 0, none⟩), .pointer (some ⟨gc, 0, none⟩)] w fun e w' =>
      ∃ bb, e = .returned (.bool bb) ∧ LeastR c q B wb m base v b0 g gw gc w (leastF c d coal many) bb w' := by
  intro d
  induction d with
  | zero =>
    intro coal many a k w h hN hpl hcl hcb hma
    have hl4 := h.cw.ok.l4
    have hl0 := h.cw.ok.l0
    have HH := Lib.hid h
    have HS := Lib.hid hs
    have HCB := Lib.hid hcb
    obtain ⟨u, hv⟩ := h.fnd
    have hcg := cell_one hv
    have hfg : w.frozen? ⟨g, 0, none⟩ = false := by simp [World.frozen?, hv]
    obtain ⟨hp1, hp2⟩ := h.put hs (.slice a coal.length k)
    have HP1 := Lib.hid hp1
    have HP2 := Lib.hid hp2
    have hgr : Grown (fun k => k = g) w (w.setCell ⟨g, 0, none⟩ (.slice a coal.length k)) := (Grown.refl (fun k => k = g) w).setCell (p := ⟨g, 0, none⟩) (.inl rfl) _
    have HGR := Lib.hid hgr
    have HXG : Hid (Ext [m, g] w (w.setCell ⟨g, 0, none⟩ (.slice a coal.length k))) := Ext.of_grown (Ext.refl [m, g] w) hgr (fun k hk _ => by simp [hk])
    have hpw : (w.setCell ⟨g, 0, none⟩ (.slice a coal.length k)).cell? ⟨gw, 0, none⟩ = some (.pointer (some ⟨wb, 0, none⟩)) := hp1.pw 0
    have hrm : w.cell? ⟨b0, 0, none⟩ = some (.int .i64 c.last) := h.rm 0
    have HI1 : Hid (PlanP N a coal (w.setCell ⟨g, 0, none⟩ (.slice a coal.length k))) := hpl.ext (L := [g]) ⟨hgr.os, hgr.tape, hgr.output, hgr.size, fun k hk hn => hgr.block k hk (fun e => hn (by simp [e]))⟩ (fun k hk => by simp at hk; have := hs.s11; omega)
    have HCL : Hid ((coal.length : Int) = c.last + 1) := by unfold Hid; omega
    have hcl1 : ((coal.length : Int) == c.last + 1) = true := by simp; omega
    clear h hs hpl hv hp1 hp2 hgr hcb hcl
    by_cases hm0 : many = 0
    · subst hm0
      go_enter Tryz.func146, Tryz.ntmps146
      go_wp2_with (first | (go_at_call 147; go_loud (refine (sureC_c c q B wb m base v coal a k _ HP1.out.cw HCL.out HCB.out HI1.out.at_).mono ?_; rintro e w5 ⟨rfl, hcw, hext⟩; have HCW5 := Lib.hid hcw; have HX5 := Lib.hid hext; clear hcw hext)))
      go_ret
      refine ⟨sureN c coal, rfl, ?_, HP1.out.sure HS.out HCW5.out HX5.out, HXG.out.trans (HX5.out.mono (fun x _ hx => by simp at hx; simp [hx])), ?_⟩
      · unfold leastF
        cases sureN c coal <;> simp
      · intro x hx
        unfold leastF at hx
        split at hx
        · cases hx
          exact ⟨a, k, (HX5.out.block _ (Array.getElem?_eq_some_iff.1 HP2.out).1 (by have := HS.out.s2; simp; omega)).trans HP2.out, (HI1.out.ext HX5.out (fun x hx => by simp at hx; have := HS.out.s10; omega)).at_⟩
        · cases hx
    · have hm1 : ¬ ((many : Int) = 0) := by omega
      have hm2 : ((many : Int) == 0) = false := by simpa using hm1
      go_enter Tryz.func146, Tryz.ntmps146
      go_wp2
      go_ret
      have hF : leastF c 0 coal many = none := by rw [leastF, if_neg (fun h => hm0 h.1)]
      refine ⟨false, rfl, by rw [hF]; rfl, HP1.out, HXG.out, fun x hx => ?_⟩
      rw [hF] at hx
      cases hx
  | succ d ih =>
    intro coal many a k w h hN hpl hcl hcb hma
    have ho := h.cw.ok
    have hl4 := ho.l4
    have hl0 := ho.l0
    have hs0 := ho.h0
    have hs3 := ho.h3
    have HH := Lib.hid h
    have HS := Lib.hid hs
    have HPL := Lib.hid hpl
    have HIH := Lib.hid ih
    have HCB := Lib.hid hcb
    have hrm := h.rm
    unfold Box copCs at hrm
    have hne : ¬ ((coal.length : Int) = c.last + 1) := by omega
    have hneb : ((coal.length : Int) == c.last + 1) = false := by simpa using hne
    obtain ⟨M, hM⟩ : ∃ M : Nat, min c.shovels (many : Int) = (M : Int) := ⟨(min c.shovels (many : Int)).toNat, by omega⟩
    have hM3 : M ≤ 3 := by omega
    have hMm : M ≤ many := by omega
    have hMs : (M : Int) ≤ c.shovels := by omega
    have HMM : Hid ((min c.shovels (many : Int) + 1).toNat = M + 1) := by unfold Hid; omega
    clear h hs hpl ih hcb ho
    go_enter Tryz.func146, Tryz.ntmps146
    go_wp2_with (first | (go_at_call 148; go_loud (refine (min2_c c.shovels (many : Int) w.heap.size 0 _ _ (by go_simp) (by go_simp)).mono ?_; rintro e w2 ⟨rfl, rfl⟩)))
    obtain ⟨W1, hW1⟩ : ∃ W1, w.alloc (.cells #[.int .i64 c.shovels, .int .i64 (many : Int)] 3) = W1 := ⟨_, rfl⟩
    rw [hW1]
    have HB1 : Hid (Below w.heap.size w W1) := by rw [← hW1]; exact bl_al (Below.refl _ _) _
    clear hW1 hrm
    have HMH := Lib.hid hM
    clear hM
    go_loopw [30] (fun i wr => ∃ j : Nat, j ≤ M + 1 ∧ i = .int .i64 (j : Int) ∧ LeastAt c q B wb m base v b0 g gw gc wr ∧ PlanP N a coal wr ∧ Ext [m, g] w wr ∧ ∀ jj : Nat, jj < j → leastF c d (coal ++ [(jj : Int)]) (many - jj) = none) (fun i _ => M + 1 - (intOf i).toNat)
    case atStart => exact ⟨0, Nat.zero_le _, rfl, HH.out.up HB1.out, HPL.out.up HB1.out, Ext.of_below HB1.out, fun jj hj => by omega⟩
    case round =>
      obtain ⟨j, hj, rfl, hg, hp, he, hnone⟩ := hrel
      have HG := Lib.hid hg
      have HP := Lib.hid hp
      have HE := Lib.hid he
      have HNO := Lib.hid hnone
      clear hg hp he hnone
      by_cases hlt : j < M + 1
      · have hlt' : (j : Int) < (M : Int) + 1 := by omega
        go_wp2
        refine r146 _ rfl _ g gw b0 gc a k coal (j : Int) (many : Int) (LeastR c q B wb m base v b0 g gw gc wr (leastF c d (coal ++ [(j : Int)]) (many - j))) wr rfl rfl rfl rfl rfl HG.out.pc (by omega) (by omega) (by omega) (by omega) (by omega) (fun w hb => clonePl (HP.out.up hb) (by omega)) ?_ ?_
        · intro A2 K2 w2 hb hr
          have hb2 := hb.size
          have hws := HE.out.size
          have := HIH.out (coal ++ [(j : Int)]) (many - j) A2 K2 w2 (HG.out.up hb) (by omega) (PlanP.own hr (by omega)) (by simp; omega) (fun i => app_bd HCB.out (by omega) (by omega) i) (by omega)
          rw [List.length_append, List.length_singleton, show (((many - j : Nat)) : Int) = (many : Int) - (j : Int) from by omega] at this
          refine this.mono ?_
          rintro e w' ⟨bo, rfl, h1, h2, h3, h4⟩
          exact ⟨bo, rfl, h1, h2, (Ext.of_below hb).trans h3, h4⟩
        · intro ac w5 bo hF h42 hR
          have HR := Lib.hid hR
          obtain ⟨f, rfl⟩ := hF.lit44 rfl h42
          clear hF h42 hR
          simp only [slots, List.getElem?_toArray, List.getElem?_cons_succ, List.getElem?_cons_zero, Option.getD_some]
          obtain ⟨hbo, hga, hext, hres⟩ := HR.out
          have HGA := Lib.hid hga
          have HXT := Lib.hid hext
          have HRS := Lib.hid hres
          have HBO := Lib.hid hbo
          clear hga hext hres hbo
          cases bo with
          | true =>
            go_wp2
            go_ret
            have hbo := HBO.out
            obtain ⟨y, hy⟩ := Option.isSome_iff_exists.1 hbo.symm
            have hfs : leastF c (d + 1) coal many = some y := by
              rw [leastF, HMM.out]
              exact findSome_step (α := Nat) _ _ j (fun jj hjj => HNO.out jj hjj) hlt hy
            refine ⟨true, rfl, by rw [hfs]; rfl, HGA.out, HE.out.trans HXT.out, fun x hx => ?_⟩
            rw [hfs] at hx
            cases hx
            exact HRS.out y hy
          | false =>
            go_wp2
            go_roundw
            case rel =>
              have hbo := HBO.out
              have hn : leastF c d (coal ++ [(j : Int)]) (many - j) = none := by
                cases h' : leastF c d (coal ++ [(j : Int)]) (many - j) with
                | none => rfl
                | some y => rw [h'] at hbo; cases hbo
              refine ⟨j + 1, by omega, by go_num, HGA.out, HP.out.ext HXT.out (fun x hx => by have := HS.out.s10; have := HS.out.s11; simp at hx; omega), HE.out.trans HXT.out, fun jj hjj => ?_⟩
              rcases Nat.lt_or_ge jj j with hl | hge
              · exact HNO.out jj hl
              · obtain rfl : jj = j := by omega
                exact hn
            case measure => simp [intOf]; omega
      · have hge : ¬ ((j : Int) < (M : Int) + 1) := by omega
        go_wp2
        go_ret
        have hfs : leastF c (d + 1) coal many = none := by
          rw [leastF, HMM.out]
          exact List.findSome?_eq_none_iff.2 (fun x hx => HNO.out x (by have := List.mem_range.1 hx; omega))
        refine .inl ⟨rfl, by rw [hfs]; rfl, HG.out, HE.out, fun x hx => ?_⟩
        rw [hfs] at hx
        cases hx
end Go.Proofs.YtpgnplmjfhdncaaGreat
/- copper's Least. -/
namespace Go.Proofs.YtpgnplmjfhdncaaGreat
open Go.RowKit
set_option linter.unusedVariables false
/-- The least coal. -/
def leastO (c : Cop) : Option (List Int) := (List.range (c.shovels * (c.last + 1) + 1).toNat).findSome? fun many => leastF c (c.last + 1).toNat [] many
set_option maxRecDepth 100000 in
set_option maxHeartbeats 8000000 in
theorem least_c (c : Cop) (q : CA) (w : World) (hq : CopAt w w.heap.size c q) (hck : checkCop c = 0) (ht : truthsC c ≠ []) :
    Calls Tryz.prog 117 #[copV c q] w fun e w' => Below w.heap.size w w' ∧ ((leastO c = none ∧ e = .returned (.tuple #[.slice none 0 0, .int .i64 10])) ∨ ∃ x A K, leastO c = some x ∧ e = .returned (.tuple #[.slice A x.length K, .int .i64 0]) ∧ IntsAt w' w'.heap.size A x) := by
  have ho := okc_of hck
  have hl0 := ho.l0
  have hl4 := ho.l4
  have hs0 := ho.h0
  have hs3 := ho.h3
  have HQ := Lib.hid hq
  have HK := Lib.hid hck
  have HT := Lib.hid ht
  have HO := Lib.hid ho
  have hm0 : 0 ≤ c.shovels * (c.last + 1) := Int.mul_nonneg hs0 (by omega)
  have hm1 : c.shovels * (c.last + 1) ≤ 3 * 5 := Int.mul_le_mul hs3 (by omega) (by omega) (by omega)
  obtain ⟨M, hM⟩ : ∃ M : Nat, c.shovels * (c.last + 1) = (M : Int) := ⟨(c.shovels * (c.last + 1)).toNat, by omega⟩
  have HLO : Hid (leastO c = (List.range (M + 1)).findSome? fun many => leastF c (c.last + 1).toNat [] many) := by unfold Hid leastO; rw [hM]; rfl
  have hM15 : M ≤ 15 := by omega
  clear hq hck ht ho hm0 hm1
  go_enter Tryz.func117, Tryz.ntmps117
  go_wp2
  go_step3
  go_wp2_with (first | (go_at_call 114; go_loud (refine (asked_ok c q _ (HQ.out.up (bl_al (Below.refl _ _) _)) HO.out.small HK.out HT.out).mono ?_; rintro e w1 ⟨m, v, rfl, hm, hmp, hwk, hb⟩; have HX1 : Hid (Box w1 w.heap.size (copCs c q)) := (Box.new w (copCs c q) 41 (0, 0)).bl (by simp) hb; have HB1 : Hid (Below w.heap.size w w1) := bl_tr (bl_al (Below.refl w.heap.size w) _) hb; have HM : Hid (w.heap.size < m) := (by simp at hm; unfold Hid; omega); have HWK := Lib.hid hwk; have HMP := Lib.hid hmp; clear hb hm hmp hwk)))
  obtain ⟨W3, hW3⟩ : ∃ W3, ((w1.alloc (.cells #[.pointer (some ⟨m + 1, 0, none⟩)] 150)).alloc (.cells #[.slice none 0 0] 22)).alloc (.cells #[.func (.func 146) #[] #[.pointer (some ⟨w.heap.size, 0, none⟩), .pointer (some ⟨w1.heap.size + 1, 0, none⟩), .pointer (some ⟨w1.heap.size, 0, none⟩), .pointer (some ⟨w1.heap.size + 1 + 1, 0, none⟩)]] 176) = W3 := ⟨_, rfl⟩
  rw [hW3]
  have hb3 : Below w1.heap.size w1 W3 := by rw [← hW3]; exact bl_al (bl_al (bl_al (Below.refl _ _) _) _) _
  have HS3 : Hid (W3.heap.size = w1.heap.size + 3) := by rw [← hW3]; simp [Hid]
  have HB3 : Hid (Below w.heap.size w W3) := bl_tr HB1.out hb3
  have hmlt : m + 1 < w1.heap.size := (Array.getElem?_eq_some_iff.1 HWK.out.cells).1
  have HCW : Hid (CW c q w.heap.size (m + 1) m (m + 9) v w1) := ⟨HO.out, HWK.out, ⟨#[], 0, HMP.out, by intro e he; simp at he⟩, HQ.out.below HB1.out, by have := HM.out; omega, rfl, by omega⟩
  have HG3 : Hid (LeastAt c q w.heap.size (m + 1) m (m + 9) v w.heap.size (w1.heap.size + 1) w1.heap.size (w1.heap.size + 1 + 1) W3) := by
    refine ⟨HCW.out.up hb3, HX1.out.bl (by simp) hb3, ⟨.slice none 0 0, ?_⟩, ?_, ?_⟩
    · rw [← hW3]
      have := World.alloc_heap_new (w1.alloc (.cells #[.pointer (some ⟨m + 1, 0, none⟩)] 150)) (.cells #[.slice none 0 0] 22)
      rw [World.size_alloc] at this
      exact heap_al this _
    · rw [← hW3]; exact ((Box.new _ _ _ _).al (by simp) _).al (by simp) _
    · rw [← hW3]; exact Box.new' _ _ _ _ (by simp)
  have HSEP : Hid (LeastSep w.heap.size (m + 1) m w.heap.size (w1.heap.size + 1) w1.heap.size (w1.heap.size + 1 + 1) (w1.heap.size + 1) v) := by
    have g1 := HM.out
    exact ⟨by omega, by omega, by omega, by omega, by omega, by omega, by omega, by omega, by omega, by omega, by omega, own_far6 HWK.out.row (by omega)⟩
  have hrm3 := HG3.out.rm
  unfold Box copCs at hrm3
  have hMw : c.shovels * (c.last + 1) = (M : Int) := hM
  have HMW := Lib.hid hM
  clear hW3 hb3 hM
  go_step3
  go_wp2
  clear hMw
  go_loopw [8, 26] (fun b i wr => ∃ k : Nat, k ≤ M + 1 ∧ b = .bool false ∧ i = .int .i64 (k : Int) ∧ LeastAt c q w.heap.size (m + 1) m (m + 9) v w.heap.size (w1.heap.size + 1) w1.heap.size (w1.heap.size + 1 + 1) wr ∧ Below w.heap.size w wr ∧ w1.heap.size + 3 ≤ wr.heap.size ∧ ∀ j, j < k → leastF c (c.last + 1).toNat [] j = none) (fun _ i _ => M + 1 - (intOf i).toNat)
  case atStart => exact ⟨0, Nat.zero_le _, rfl, rfl, HG3.out, HB3.out, by have := HS3.out; omega, fun j hj => by omega⟩
  case round =>
    obtain ⟨k, hk, rfl, rfl, hg, hb, hsz, hno⟩ := hrel
    have HG := Lib.hid hg
    have HB := Lib.hid hb
    have HNO := Lib.hid hno
    have hcl : wr.cell? ⟨w1.heap.size + 1 + 1, 0, none⟩ = some (.func (.func 146) #[] #[.pointer (some ⟨w.heap.size, 0, none⟩), .pointer (some ⟨w1.heap.size + 1, 0, none⟩), .pointer (some ⟨w1.heap.size, 0, none⟩), .pointer (some ⟨w1.heap.size + 1 + 1, 0, none⟩)]) := hg.pc 0
    clear hg hb hno hrm3
    by_cases hlt : k < M + 1
    · have hlt' : (k : Int) < (M : Int) + 1 := by omega
      go_upto_if 32 with (first | (go_at_call 146; go_loud (refine (least_rec c q w.heap.size (m + 1) m (m + 9) v w.heap.size (w1.heap.size + 1) w1.heap.size (w1.heap.size + 1 + 1) (w1.heap.size + 1) HSEP.out (c.last + 1).toNat [] k none 0 wr HG.out (by omega) (.inl ⟨rfl, rfl⟩) (by simp; omega) (fun j => by simp [nth]) (by omega)).mono ?_; rintro e w5 ⟨bo, rfl, hR⟩; have HR := Lib.hid hR; clear hR hcl)))
      cases bo with
      | true =>
        obtain ⟨hbo, hga, hext, hres⟩ := HR.out
        obtain ⟨y, hy⟩ := Option.isSome_iff_exists.1 hbo.symm
        obtain ⟨A, K, hf, hi⟩ := hres y hy
        have hgo : leastO c = some y := by rw [HLO.out]; exact findSome_step (α := Nat) (fun many => leastF c (c.last + 1).toNat [] many) _ k HNO.out hlt hy
        have hcf := cell_one hf
        have HI := Lib.hid hi
        have HXT := Lib.hid hext
        have HGO := Lib.hid hgo
        clear hbo hga hext hres hy hf hi hgo
        go_wp2
        rw [Exit.noGoto_ret]
        go_ret2
        exact ⟨HB.out.trans (HXT.out.below HB.out.size (fun x hx => by have := HSEP.out.s9; have := HM.out; simp at hx; omega)), .inr ⟨y, A, K, HGO.out, rfl, HI.out⟩⟩
      | false =>
        obtain ⟨hbo, hga, hext, hres⟩ := HR.out
        have hn : leastF c (c.last + 1).toNat [] k = none := by
          cases h' : leastF c (c.last + 1).toNat [] k with
          | none => rfl
          | some y => rw [h'] at hbo; cases hbo
        have HGA := Lib.hid hga
        have HXT := Lib.hid hext
        have HN := Lib.hid hn
        clear hbo hga hext hres hn
        go_wp2
        go_roundw
        case rel =>
          refine ⟨k + 1, by omega, rfl, by go_num, HGA.out, HB.out.trans (HXT.out.below HB.out.size (fun x hx => by have := HSEP.out.s9; have := HM.out; simp at hx; omega)), Nat.le_trans hsz HXT.out.size, fun j hj => ?_⟩
          rcases Nat.lt_or_ge j k with h1 | h1
          · exact HNO.out j h1
          · obtain rfl : j = k := by omega
            exact HN.out
        case measure => simp [intOf]; omega
    · have hge : ¬ ((k : Int) < (M : Int) + 1) := by omega
      have HLN : Hid (leastO c = none) := by unfold Hid; rw [HLO.out]; exact List.findSome?_eq_none_iff.2 (fun x hx => HNO.out x (by have := List.mem_range.1 hx; omega))
      go_wp2
      go_ret2
      exact ⟨HB.out, .inl ⟨HLN.out, rfl⟩⟩
end Go.Proofs.YtpgnplmjfhdncaaGreat
/- The least coal for a plan. -/
namespace Go.Proofs.YtpgnplmjfhdncaaGreat
open Go.RowKit
set_option linter.unusedVariables false
set_option maxRecDepth 100000 in
set_option maxHeartbeats 4000000 in
theorem bcoalE_c (r : Rm) (q : RA) (plan : List Int) (a1 : Option Addr) (c1 : Nat) (w : World) (hq : RoomAt w w.heap.size r q) (hsm : Small r.cop) (hpl : plan.length ≤ 1000000000) (hx : IntsAt w w.heap.size a1 plan) (he : planErr r plan true ≠ 0) :
    Calls Tryz.prog 61 #[roomV r q, .slice a1 plan.length c1] w fun e w' => e = .returned (.tuple #[.slice none 0 0, .int .i64 (planErr r plan true)]) ∧ Below w.heap.size w w' := by
  have HQ := Lib.hid hq
  have HX := Lib.hid hx
  have HE := Lib.hid he
  have hne : (planErr r plan true == 0) = false := by simpa using he
  clear hq hx he
  go_enter Tryz.func61, Tryz.ntmps61
  go_wp2_with (first | (go_at_call 83; refine (planned_e r q plan a1 c1 true _ (HQ.out.up (bl_al (Below.refl _ _) _)) hsm hpl (HX.out.up (bl_al (Below.refl _ _) _)) HE.out).mono ?_; rintro e w1 ⟨rfl, hb⟩; have HB := Lib.hid (bl_tr (bl_al (Below.refl w.heap.size w) _) hb); clear hb))
  go_ret2
  exact ⟨rfl, bl_al HB.out _⟩
set_option maxRecDepth 100000 in
set_option maxHeartbeats 4000000 in
theorem bcoalR_c (r : Rm) (q : RA) (plan : List Int) (a1 : Option Addr) (c1 : Nat) (w : World) (hq : RoomAt w w.heap.size r q) (hpl : plan.length ≤ 1000000000) (hx : IntsAt w w.heap.size a1 plan) (he : planErr r plan true = 0) (hr : r.cop.rds ≠ []) :
    Calls Tryz.prog 61 #[roomV r q, .slice a1 plan.length c1] w fun e w' => e = .returned (.tuple #[.slice none 0 0, .int .i64 8]) ∧ Below w.heap.size w w' := by
  have HQ := Lib.hid hq
  have HX := Lib.hid hx
  have HE := Lib.hid he
  have hrp : (0 : Int) < (r.cop.rds.length : Int) := by have : r.cop.rds.length ≠ 0 := fun h => hr (List.eq_nil_of_length_eq_zero h); omega
  clear hq hx he hr
  go_enter Tryz.func61, Tryz.ntmps61
  go_wp2_with (first | (go_at_call 83; go_loud (refine (planned_y r q plan a1 c1 true _ (HQ.out.up (bl_al (Below.refl _ _) _)) hpl (HX.out.up (bl_al (Below.refl _ _) _)) HE.out).mono ?_; rintro e w1 ⟨m, rfl, hbw, hb⟩; have HBX1 : Hid (Box w1 w.heap.size (roomCs r q)) := (Box.new w (roomCs r q) 44 (0, 0)).bl (by simp) hb; have hbx := HBX1.out; unfold Box roomCs at hbx; have HB := Lib.hid (bl_tr (bl_al (Below.refl w.heap.size w) _) hb); clear hb hbw)))
  go_ret2
  exact ⟨rfl, bl_al HB.out _⟩
set_option maxRecDepth 100000 in
set_option maxHeartbeats 8000000 in
theorem bcoal_c (r : Rm) (q : RA) (plan : List Int) (a1 : Option Addr) (c1 : Nat) (w : World) (hq : RoomAt w w.heap.size r q) (hpl : plan.length ≤ 1000000000) (hx : IntsAt w w.heap.size a1 plan) (he : planErr r plan true = 0) (hr : r.cop.rds = []) :
    Calls Tryz.prog 61 #[roomV r q, .slice a1 plan.length c1] w fun e w' => Below w.heap.size w w' ∧ ((leastO (wantW r (countL plan plan.length)) = none ∧ e = .returned (.tuple #[.slice none 0 0, .int .i64 10])) ∨ ∃ x A K, leastO (wantW r (countL plan plan.length)) = some x ∧ e = .returned (.tuple #[.slice A x.length K, .int .i64 0]) ∧ IntsAt w' w'.heap.size A x) := by
  have HQ := Lib.hid hq
  have HX := Lib.hid hx
  have HE := Lib.hid he
  obtain ⟨h0, h1, _, hcn⟩ := planErr_ok he
  have ho := room_ok h0
  have hn := cnt_bd h0 h1
  have HO := Lib.hid ho
  have HCK := Lib.hid (check_of (wantW_ok ho (fun j => (hn j).1) hcn))
  have HTN := Lib.hid (wantW_ne ho hr (fun j => (hn j).1) hcn)
  have HWB := Lib.hid (wantN_bd ho (fun j => (hn j).1) hcn)
  have HBB := Lib.hid (buckets_bd ho (fun j => (hn j).1) hcn)
  have HCN : Hid (∀ j, 0 ≤ nth (countL plan plan.length) j ∧ nth (countL plan plan.length) j ≤ 100) := fun j => by have := hn j; omega
  have HR := Lib.hid hr
  have hr0 : ¬ (0 : Int) < (r.cop.rds.length : Int) := by rw [hr]; simp
  have hr1 : (r.cop.rds.length : Int) = 0 := by rw [hr]; rfl
  have HR1 := Lib.hid hr1
  have hl0 := ho.cop.l0
  have hl4 := ho.cop.l4
  have hwl := ho.cop.wl
  obtain ⟨b1, o1, ha2, hb1, hcw⟩ := hq.cop.want.at_ (by omega)
  have HA2 := Lib.hid ha2
  have HWC : Hid (∀ W, Below w.heap.size w W → ∀ j, j < r.cop.want.length → W.cell? ⟨b1, o1 + j, none⟩ = some (.int .i64 (nth r.cop.want j))) := fun W hW j hj => cell_later hW (hcw j hj)
  generalize hcl : countL plan plan.length = n at *
  have HPY : Hid (∀ w1 : World, RoomAt w1 w1.heap.size r q → IntsAt w1 w1.heap.size a1 plan → Calls Tryz.prog 83 #[roomV r q, .slice a1 plan.length c1, .bool true] w1 fun e w' => ∃ m, e = .returned (.tuple #[.pointer (some ⟨m + 1, 0, none⟩), nv n, .int .i64 0]) ∧ BW r q w1.heap.size (m + 1) m w' ∧ Below w1.heap.size w1 w') := fun w1 hq hx => by
    have := planned_y r q plan a1 c1 true w1 hq hpl hx HE.out
    rw [hcl] at this
    exact this
  clear hq hx he hr h0 h1 hcn ho hn hcw ha2 hcl hr1
  go_enter Tryz.func61, Tryz.ntmps61
  go_upto_region 7 with (first | (go_at_call 83; go_loud (refine (HPY.out _ (HQ.out.up (bl_al (Below.refl _ _) _)) (HX.out.up (bl_al (Below.refl _ _) _))).mono ?_; rintro e w1 ⟨m, rfl, hbw, hb⟩; have HBX1 : Hid (Box w1 w.heap.size (roomCs r q)) := (Box.new w (roomCs r q) 44 (0, 0)).bl (by simp) hb; have hbx := HBX1.out; unfold Box roomCs at hbx; have HB := Lib.hid (bl_tr (bl_al (Below.refl w.heap.size w) _) hb); clear hb hbw)))
  obtain ⟨W1, hW1⟩ : ∃ W1, (w1.alloc (.cells #[.int .i64 (nth n 0), .int .i64 (nth n 1), .int .i64 (nth n 2), .int .i64 (nth n 3), .int .i64 (nth n 4)] 115)).alloc (.cells #[.int .i64 r.cop.last, .int .i64 r.cop.start, .int .i64 r.cop.most, .int .i64 r.cop.per, .int .i64 r.cop.shovels, .slice q.q.a1 r.cop.coal.length q.q.c1, .slice q.q.a2 r.cop.want.length q.q.c2, .int .i64 r.cop.hlo, .int .i64 r.cop.hhi, .slice q.q.a3 r.cop.loss.length q.q.c3, .slice q.q.a4 r.cop.rds.length q.q.c4] 41) = W1 := ⟨_, rfl⟩
  rw [hW1]
  have hb1' : Below w1.heap.size w1 W1 := by rw [← hW1]; exact bl_al (bl_al (Below.refl _ _) _) _
  have HBA : Hid (Below w.heap.size w W1) := bl_tr HB.out hb1'
  have HS1 : Hid (W1.heap.size = w1.heap.size + 2) := by rw [← hW1]; simp [Hid]
  have HRM : Hid (Box W1 w.heap.size (roomCs r q)) := HBX1.out.bl (by simp [roomCs]) hb1'
  have HNN : Hid (Box W1 w1.heap.size (nvs n)) := by rw [← hW1]; exact (Box.new _ _ _ _).al (by simp) _
  have HCC : Hid (W1.heap[w1.heap.size + 1]? = some (.cells (copCs r.cop q.q) 41 (0, 0))) := by
    rw [← hW1]
    have := World.alloc_heap_new (w1.alloc (.cells #[.int .i64 (nth n 0), .int .i64 (nth n 1), .int .i64 (nth n 2), .int .i64 (nth n 3), .int .i64 (nth n 4)] 115)) (.cells (copCs r.cop q.q) 41)
    rw [World.size_alloc] at this
    exact this
  have hwlt : w.heap.size < w1.heap.size := HBX1.out.lt (by simp [roomCs])
  clear hW1 hb1' hbx
  have hrm1 := HRM.out
  have hnn1 := HNN.out
  unfold Box roomCs at hrm1
  unfold Box nvs at hnn1
  go_upto_region 8 with (first | (go_at_call 84; go_loud (refine (buckets_r r q n _ HO.out.cop.l0 HO.out.cop.l4 HO.out.b1 HO.out.b9 HCN.out).mono ?_; rintro e w2 ⟨u, rfl, hown, hb2⟩; rcases hown.2 with ⟨_, h0⟩ | ⟨g, cap, cur, rfl, hgb, hgh, hg1, hg2, hg3, hg4⟩; (exfalso; omega); have HGH := Lib.hid hgh; have HG4 := Lib.hid hg4; have HGB := Lib.hid hgb; have HB2 := Lib.hid hb2; have HCC2 : Hid (w2.heap[w1.heap.size + 1]? = some (.cells (copCs r.cop q.q) 41 (0, 0))) := (hb2.block _ (by have := HS1.out; omega)).trans HCC.out; have kc6 : w2.cell? ⟨w1.heap.size + 1, 6, none⟩ = some (.slice q.q.a2 r.cop.want.length q.q.c2) := (by simp [World.cell?, HCC2.out]); have kf6 : w2.frozen? ⟨w1.heap.size + 1, 6, none⟩ = false := (by simp [World.frozen?, HCC2.out]); clear hrm1 hnn1 hgh hg4 hb2 hown hgb)))
  have hs1 := HS1.out
  have hgb1 := HGB.out
  have hws2 := HB2.out.size
  have hL : r.cop.want.length = (r.cop.last + 1).toNat := by omega
  obtain ⟨W2, hW2⟩ : ∃ W2, w2.setCell ⟨w1.heap.size + 1, 6, none⟩ (.slice (some ⟨g, 0, none⟩) (r.cop.last + 1).toNat cap) = W2 := ⟨_, rfl⟩
  rw [hW2]
  have hg2 : Grown (fun k => k = w1.heap.size + 1) w2 W2 := by rw [← hW2]; exact (Grown.refl (fun k => k = w1.heap.size + 1) w2).setCell (p := ⟨w1.heap.size + 1, 6, none⟩) (.inl rfl) _
  have HC2 : Hid (W2.heap[w1.heap.size + 1]? = some (.cells #[.int .i64 r.cop.last, .int .i64 r.cop.start, .int .i64 r.cop.most, .int .i64 r.cop.per, .int .i64 r.cop.shovels, .slice q.q.a1 r.cop.coal.length q.q.c1, .slice (some ⟨g, 0, none⟩) (r.cop.last + 1).toNat cap, .int .i64 r.cop.hlo, .int .i64 r.cop.hhi, .slice q.q.a3 r.cop.loss.length q.q.c3, .slice q.q.a4 r.cop.rds.length q.q.c4] 41 (0, 0))) := by rw [← hW2]; unfold Hid; rw [heap_setCell_same _ _ _ _ _ _ HCC2.out]; rfl
  have hgne : g ≠ w1.heap.size + 1 := by omega
  have HG2 : Hid (W2.heap[g]? = some (.cells cur 3 (0, 0))) := (hg2.block _ (Array.getElem?_eq_some_iff.1 HGH.out).1 hgne).trans HGH.out
  have HB2' : Hid (Below w.heap.size w W2) := (bl_tr HBA.out HB2.out).trans (hg2.below (by omega) (fun k hk => by omega))
  have HRM2 : Hid (Box W2 w.heap.size (roomCs r q)) := hg2.box (HRM.out.bl (by simp [roomCs]) HB2.out) (by omega) (by omega)
  have HCUR : Hid (∀ k, k < (r.cop.last + 1).toNat → cur[k]? = some (.int .i64 (nth (bucketsL r n) k))) := fun k hk => by
    have h := HG4.out
    have h2 : (cur.toList.take ((r.cop.last + 1).toNat * 1))[k]? = some (.int .i64 (nth (bucketsL r n) k)) := by rw [h]; exact ints_at _ _ (by rw [bucketsL, rowI_len]; exact hk)
    rw [List.getElem?_take, if_pos (by omega)] at h2
    simpa using h2
  have HLS : Hid (∀ W, CopAt W W.heap.size (wantW r n) ⟨q.q.a1, q.q.c1, some ⟨g, 0, none⟩, cap, q.q.a3, q.q.c3, q.q.a4, q.q.c4⟩ → Calls Tryz.prog 117 #[.agg #[.int .i64 r.cop.last, .int .i64 r.cop.start, .int .i64 r.cop.most, .int .i64 r.cop.per, .int .i64 r.cop.shovels, .slice q.q.a1 r.cop.coal.length q.q.c1, .slice (some ⟨g, 0, none⟩) (r.cop.last + 1).toNat cap, .int .i64 r.cop.hlo, .int .i64 r.cop.hhi, .slice q.q.a3 r.cop.loss.length q.q.c3, .slice q.q.a4 r.cop.rds.length q.q.c4]] W fun e w' => Below W.heap.size W w' ∧ ((leastO (wantW r n) = none ∧ e = .returned (.tuple #[.slice none 0 0, .int .i64 10])) ∨ ∃ x A K, leastO (wantW r n) = some x ∧ e = .returned (.tuple #[.slice A x.length K, .int .i64 0]) ∧ IntsAt w' w'.heap.size A x)) := fun W hq => by
    have key := least_c (wantW r n) ⟨q.q.a1, q.q.c1, some ⟨g, 0, none⟩, cap, q.q.a3, q.q.c3, q.q.a4, q.q.c4⟩ W hq HCK.out HTN.out
    have e : copV (wantW r n) ⟨q.q.a1, q.q.c1, some ⟨g, 0, none⟩, cap, q.q.a3, q.q.c3, q.q.a4, q.q.c4⟩ = .agg #[.int .i64 r.cop.last, .int .i64 r.cop.start, .int .i64 r.cop.most, .int .i64 r.cop.per, .int .i64 r.cop.shovels, .slice q.q.a1 r.cop.coal.length q.q.c1, .slice (some ⟨g, 0, none⟩) (r.cop.last + 1).toNat cap, .int .i64 r.cop.hlo, .int .i64 r.cop.hhi, .slice q.q.a3 r.cop.loss.length q.q.c3, .slice q.q.a4 r.cop.rds.length q.q.c4] := by
      show (.agg #[.int .i64 r.cop.last, .int .i64 r.cop.start, .int .i64 r.cop.most, .int .i64 r.cop.per, .int .i64 r.cop.shovels, .slice q.q.a1 r.cop.coal.length q.q.c1, .slice (some ⟨g, 0, none⟩) (wantN r n).length cap, .int .i64 r.cop.hlo, .int .i64 r.cop.hhi, .slice q.q.a3 r.cop.loss.length q.q.c3, .slice q.q.a4 r.cop.rds.length q.q.c4] : Value) = _
      rw [wantN_len]
    rw [e] at key
    exact key
  have hrm2 : W2.cell? ⟨w.heap.size, 6, none⟩ = some (.slice (some ⟨b1, o1, none⟩) r.cop.want.length q.q.c2) := by rw [HRM2.out 6, ← HA2.out]; rfl
  clear hW2 hg2 kc6 kf6
  go_wp2
  go_loopw [37] (fun i wr => ∃ (j : Nat) (cu : Array Value), j ≤ r.cop.want.length ∧ i = .int .i64 (j : Int) ∧ Below w.heap.size w wr ∧ wr.heap[g]? = some (.cells cu 3 (0, 0)) ∧ wr.heap[w1.heap.size + 1]? = some (.cells #[.int .i64 r.cop.last, .int .i64 r.cop.start, .int .i64 r.cop.most, .int .i64 r.cop.per, .int .i64 r.cop.shovels, .slice q.q.a1 r.cop.coal.length q.q.c1, .slice (some ⟨g, 0, none⟩) (r.cop.last + 1).toNat cap, .int .i64 r.cop.hlo, .int .i64 r.cop.hhi, .slice q.q.a3 r.cop.loss.length q.q.c3, .slice q.q.a4 r.cop.rds.length q.q.c4] 41 (0, 0)) ∧ ∀ k, k < r.cop.want.length → cu[k]? = some (.int .i64 (if k < j then nth r.cop.want k + nth (bucketsL r n) k else nth (bucketsL r n) k))) (fun i _ => r.cop.want.length - (intOf i).toNat)
  case atStart => exact ⟨0, cur, Nat.zero_le _, rfl, HB2'.out, HG2.out, HC2.out, fun k hk => by rw [if_neg (by omega)]; exact HCUR.out k (by omega)⟩
  case round =>
    obtain ⟨j, cu, hj, rfl, hb, hh, hc, hcu⟩ := hrel
    have HBB2 := Lib.hid hb
    have HH := Lib.hid hh
    have HC := Lib.hid hc
    have HCU := Lib.hid hcu
    clear hb hcu
    by_cases hlt : j < r.cop.want.length
    · have hcj : wr.cell? ⟨g, j, none⟩ = some (.int .i64 (nth (bucketsL r n) j)) := by
        have := HCU.out j hlt
        rw [if_neg (by omega)] at this
        simp [World.cell?, hh, this]
      have hfj : wr.frozen? ⟨g, j, none⟩ = false := by simp [World.frozen?, hh]
      have hwj := HWC.out wr HBB2.out j hlt
      have hc6 : wr.cell? ⟨w1.heap.size + 1, 6, none⟩ = some (.slice (some ⟨g, 0, none⟩) (r.cop.last + 1).toNat cap) := by simp [World.cell?, hc]
      have hbj := HBB.out j
      have hw2j := HO.out.cop.wb j
      have hj1 : (j : Int) < (r.cop.want.length : Int) := by omega
      have hj2 : (j : Int) < ((r.cop.last + 1).toNat : Int) := by omega
      have hj3 : j < (r.cop.last + 1).toNat := by omega
      clear hh hc hrm2
      go_wp2
      go_roundw
      case rel =>
        refine ⟨j + 1, _, by omega, by go_num, bl_st HBB2.out (by simp; omega) _, heap_setCell_same _ _ j _ _ _ HH.out, (Below.heap_setCell _ _ _ _ (by simp; omega)).trans HC.out, fun k hk => ?_⟩
        have hk2 := HCU.out k hk
        by_cases hkj : k = j
        · subst hkj
          have hsz : k < cu.size := (Array.getElem?_eq_some_iff.1 hk2).1
          rw [if_pos (by omega), Int.add_comm]
          simp [hsz]
        · rw [Array.getElem?_setIfInBounds_ne (by omega), hk2]
          by_cases hkl : k < j
          · rw [if_pos hkl, if_pos (by omega)]
          · rw [if_neg hkl, if_neg (by omega)]
      case measure => simp [intOf]; omega
    · obtain rfl : j = r.cop.want.length := by omega
      have hI : IntsAt wr wr.heap.size (some ⟨g, 0, none⟩) (wantN r n) := .inr ⟨g, 0, rfl, (Array.getElem?_eq_some_iff.1 hh).1, fun k hk => by
        have hk' : k < r.cop.want.length := by rw [wantN_len] at hk; omega
        have := HCU.out k hk'
        rw [if_pos hk'] at this
        rw [wantN, sumL, nth_rowI _ (by omega), Nat.zero_add]
        simp [World.cell?, hh, this]⟩
      have hq1 := (HQ.out.cop.up HBB2.out)
      have HCA : Hid (CopAt wr wr.heap.size (wantW r n) ⟨q.q.a1, q.q.c1, some ⟨g, 0, none⟩, cap, q.q.a3, q.q.c3, q.q.a4, q.q.c4⟩) := ⟨hq1.coal, hI, hq1.loss, hq1.rds⟩
      have hce : ∀ o, wr.cell? ⟨w1.heap.size + 1, o, none⟩ = (#[.int .i64 r.cop.last, .int .i64 r.cop.start, .int .i64 r.cop.most, .int .i64 r.cop.per, .int .i64 r.cop.shovels, .slice q.q.a1 r.cop.coal.length q.q.c1, .slice (some ⟨g, 0, none⟩) (r.cop.last + 1).toNat cap, .int .i64 r.cop.hlo, .int .i64 r.cop.hhi, .slice q.q.a3 r.cop.loss.length q.q.c3, .slice q.q.a4 r.cop.rds.length q.q.c4] : Array Value)[o]? := fun o => by simp [World.cell?, hc]
      clear hh hc hI hq1 hrm2
      go_wp2_with (first | (go_at_call 117; go_loud (refine (HLS.out wr HCA.out).mono ?_; rintro e w5 ⟨hb5, (⟨hl5, rfl⟩ | ⟨x, A, K, hl5, rfl, hi5⟩)⟩)))
      · go_ret2
        exact ⟨HBB2.out.trans (hb5.mono HBB2.out.size), .inl ⟨hl5, rfl⟩⟩
      · go_ret2
        exact ⟨HBB2.out.trans (hb5.mono HBB2.out.size), .inr ⟨x, A, K, hl5, rfl, hi5⟩⟩
end Go.Proofs.YtpgnplmjfhdncaaGreat
