/- A part of the proof: Get. -/
import Derived.Test.YtpgnplmjfhdncaaGreatKBase
namespace Go.Proofs.YtpgnplmjfhdncaaGreat
open Go.RowKit
theorem IntsAt.get {w : World} {B b o : Nat} {xs : List Int} (h : IntsAt w B (some ⟨b, o, none⟩) xs) (j : Nat) (hj : j < xs.length) : w.cell? ⟨b, o + j, none⟩ = some (.int .i64 (nth xs j)) := by
  obtain ⟨b', o', e, _, hc⟩ := h.at_ (by omega)
  cases e
  exact hc j hj
theorem PairsAt.get {w : World} {B b o : Nat} {xs : List (Int × Int)} (h : PairsAt w B (some ⟨b, o, none⟩) xs) (j : Nat) (hj : j < xs.length) : w.cell? ⟨b, o + j * 2, none⟩ = some (.int .i64 (p1 xs j)) ∧ w.cell? ⟨b, o + j * 2 + 1, none⟩ = some (.int .i64 (p2 xs j)) := by
  obtain ⟨b', o', e, _, hc⟩ := h.at_ (by omega)
  cases e
  exact hc j hj
theorem TripsAt.get {w : World} {B b o : Nat} {xs : List (Int × Int × Int)} (h : TripsAt w B (some ⟨b, o, none⟩) xs) (j : Nat) (hj : j < xs.length) : w.cell? ⟨b, o + j * 3, none⟩ = some (.int .i64 (t1 xs j)) ∧ w.cell? ⟨b, o + j * 3 + 1, none⟩ = some (.int .i64 (t2 xs j)) ∧ w.cell? ⟨b, o + j * 3 + 2, none⟩ = some (.int .i64 (t3 xs j)) := by
  obtain ⟨b', o', e, _, hc⟩ := h.at_ (by omega)
  cases e
  exact hc j hj
theorem ScenesAt.get {w : World} {B b o : Nat} {xs : List (Int × List Int)} (h : ScenesAt w B (some ⟨b, o, none⟩) xs) (j : Nat) (hj : j < xs.length) : w.cell? ⟨b, o + j * 6, none⟩ = some (.int .i64 (sh xs j)) ∧ w.cell? ⟨b, o + j * 6 + 1, none⟩ = some (.int .i64 (nth (sl xs j) 0)) ∧ w.cell? ⟨b, o + j * 6 + 2, none⟩ = some (.int .i64 (nth (sl xs j) 1)) ∧ w.cell? ⟨b, o + j * 6 + 3, none⟩ = some (.int .i64 (nth (sl xs j) 2)) ∧ w.cell? ⟨b, o + j * 6 + 4, none⟩ = some (.int .i64 (nth (sl xs j) 3)) ∧ w.cell? ⟨b, o + j * 6 + 5, none⟩ = some (.int .i64 (nth (sl xs j) 4)) := by
  obtain ⟨b', o', e, _, hc⟩ := h.at_ (by omega)
  cases e
  exact hc j hj
theorem IntsAt.some_ {w : World} {B : Nat} {a : Option Addr} {xs : List Int} (h : IntsAt w B a xs) (hp : 0 < xs.length) : ∃ b o, a = some ⟨b, o, none⟩ := by
  obtain ⟨b, o, e, _⟩ := h.at_ hp
  exact ⟨b, o, e⟩
theorem PairsAt.some_ {w : World} {B : Nat} {a : Option Addr} {xs : List (Int × Int)} (h : PairsAt w B a xs) (hp : 0 < xs.length) : ∃ b o, a = some ⟨b, o, none⟩ := by
  obtain ⟨b, o, e, _⟩ := h.at_ hp
  exact ⟨b, o, e⟩
theorem TripsAt.some_ {w : World} {B : Nat} {a : Option Addr} {xs : List (Int × Int × Int)} (h : TripsAt w B a xs) (hp : 0 < xs.length) : ∃ b o, a = some ⟨b, o, none⟩ := by
  obtain ⟨b, o, e, _⟩ := h.at_ hp
  exact ⟨b, o, e⟩
theorem ScenesAt.some_ {w : World} {B : Nat} {a : Option Addr} {xs : List (Int × List Int)} (h : ScenesAt w B a xs) (hp : 0 < xs.length) : ∃ b o, a = some ⟨b, o, none⟩ := by
  obtain ⟨b, o, e, _⟩ := h.at_ hp
  exact ⟨b, o, e⟩
end Go.Proofs.YtpgnplmjfhdncaaGreat
