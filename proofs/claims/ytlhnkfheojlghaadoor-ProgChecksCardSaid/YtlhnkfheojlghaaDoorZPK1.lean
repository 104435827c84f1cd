/- A part of the proof of the law that RowProgChecks shows: lemmas, and contracts of the calls that it reaches. -/
import Derived.Test.YtlhnkfheojlghaaDoorProg
import Derived.Below
import Derived.Deep.Draws
import Derived.Deep.AppendLies
import Derived.Maps.AppendAt
import Derived.OwnWalk
import Derived.Laws.BytesArg
import Derived.Laws.MakeOwn
import Derived.Laws.OwnMore
import Derived.Deep.OwnRows
import Derived.Tactics
import Derived.Lib.ConvBytes
import Derived.Laws.Slices
import Derived.WalkKit
import Derived.KernelRfl
import Derived.RowKit3
import Derived.Deep.LoopGhost
import Derived.Deep.QuietTactic
import Derived.BigQuiet
import Derived.WideLaws
import Derived.Deep.DeepCutAuto
import Derived.Deep.CutBlock
import Derived.Deep.RegionHeld3
import Derived.Laws.Rows
import Derived.Lib.AppendStr
import Derived.ArgAppend
import Derived.Laws.IdiomCopy
import Derived.OrdersHeld
import Derived.Laws.BitsLemmas
import Derived.RowKit
import Derived.Test.YtlhnkfheojlghaaDoorZPK0
import Derived.Shelf.Lay
import Derived.Shelf.LaysM
import Derived.Shelf.Strconv.Itoa3
import Derived.WalkLawsBesides
import Derived.Lib.SliceRun
import Derived.Laws.Externs
set_option linter.unusedVariables false
set_option linter.unusedSimpArgs false
section
namespace Go.Proofs.YtlhnkfheojlghaaDoor.Pr
open Go.RowKit Go.Proofs.YtlhnkfheojlghaaDoorW.PrintWords Go.Proofs.YtlhnkfheojlghaaDoorW.PrintLast Go.Proofs.YtlhnkfheojlghaaDoorW.PrintMore
attribute [local go_sem] max2_int min2_int max_two min_two max_three min_three max_four min_four
def errW : Option Int → Value
  | none => .nilIface
  | some c => .iface 0 (.int .i64 c)
theorem errW_none : errW none = .nilIface := rfl
theorem errW_some (c : Int) : errW (some c) = .iface 0 (.int .i64 c) := rfl
theorem info27 : (Tryd.prog.info? 27).map (fun i => (i.zero, i.size, i.bytes)) = some (some (.agg #[(.int .i64 0), (.int .i64 0), (.slice none 0 0), (.slice none 0 0), (.slice none 0 0), (.slice none 0 0)]), 6, 112) := by kernel_rfl
theorem info36 : (Tryd.prog.info? 36).map (fun i => (i.zero, i.size, i.bytes)) = some (some (.agg #[(.int .i64 0), (.int .i64 0), (.int .i64 0), (.int .i64 0)]), 4, 32) := by kernel_rfl
theorem info94 : (Tryd.prog.info? 94).map (fun i => (i.zero, i.size, i.bytes)) = some (some (.agg #[(.bool false), (.int .i64 0)]), 2, 16) := by kernel_rfl
theorem info98 : (Tryd.prog.info? 98).map (fun i => (i.zero, i.size, i.bytes)) = some (some (.agg #[(.int .i64 0), (.int .u64 0), (.string ⟨#[]⟩), (.int .i64 0)]), 4, 40) := by kernel_rfl
structure S36 where
  f0 : Int
  f1 : Int
  f2 : Int
  f3 : Int
def z36 : S36 := ⟨(0 : Int), (0 : Int), (0 : Int), (0 : Int)⟩
def k36 : Kd S36 := Kd.iso (Kd.pair (Kd.int .i64) (Kd.pair (Kd.int .i64) (Kd.pair (Kd.int .i64) (Kd.int .i64)))) (fun x : S36 => (x.f0, x.f1, x.f2, x.f3))
theorem k36_open {w : World} {x : S36} {cs : List Value} (h : k36.K w x cs) : cs = [.int .i64 x.f0, .int .i64 x.f1, .int .i64 x.f2, .int .i64 x.f3] := by
  obtain ⟨_, _, rfl, rfl, ⟨_, _, rfl, rfl, ⟨_, _, rfl, rfl, rfl⟩⟩⟩ := h
  exact rfl
theorem k36_mk (w : World) (x : S36)  : k36.K w x [.int .i64 x.f0, .int .i64 x.f1, .int .i64 x.f2, .int .i64 x.f3] := ⟨[.int .i64 x.f0], [.int .i64 x.f1, .int .i64 x.f2, .int .i64 x.f3], rfl, rfl, ⟨[.int .i64 x.f1], [.int .i64 x.f2, .int .i64 x.f3], rfl, rfl, ⟨[.int .i64 x.f2], [.int .i64 x.f3], rfl, rfl, rfl⟩⟩⟩
theorem k36_mkM (w : World) (base : Nat) (ok : Nat → Prop) (x : S36)  : k36.M w base ok x [.int .i64 x.f0, .int .i64 x.f1, .int .i64 x.f2, .int .i64 x.f3] := ⟨[.int .i64 x.f0], [.int .i64 x.f1, .int .i64 x.f2, .int .i64 x.f3], rfl, rfl, ⟨[.int .i64 x.f1], [.int .i64 x.f2, .int .i64 x.f3], rfl, rfl, ⟨[.int .i64 x.f2], [.int .i64 x.f3], rfl, rfl, rfl⟩⟩⟩
def rd_T36 (xs : List S36) (i : Int) : S36 := xs.getD i.toNat z36
theorem at_T36 {w : World} {A : Option Addr} {n : Nat} {xs : List S36} (h : Kd.C k36 w A n xs) (i : Int) (h0 : 0 ≤ i) (h1 : i < n) : ∃ ad , A = some ad ∧ w.cell? (ad.add (i.toNat * 4)) = some (.int .i64 (rd_T36 xs i).f0) ∧ w.cell? ⟨(ad.add (i.toNat * 4)).block, (ad.add (i.toNat * 4)).off + 1, none⟩ = some (.int .i64 (rd_T36 xs i).f1) ∧ w.cell? ⟨(ad.add (i.toNat * 4)).block, (ad.add (i.toNat * 4)).off + 2, none⟩ = some (.int .i64 (rd_T36 xs i).f2) ∧ w.cell? ⟨(ad.add (i.toNat * 4)).block, (ad.add (i.toNat * 4)).off + 3, none⟩ = some (.int .i64 (rd_T36 xs i).f3) := by
  obtain ⟨ad, c, e, _, hK, hc0⟩ := Kd.C_get h z36 i h0 h1
  have hc : ∀ j u, c[j]? = some u → w.cell? (ad.add (i.toNat * 4 + j)) = some u := hc0
  obtain rfl := k36_open hK
  exact ⟨ad, e, hc 0 _ rfl, by rw [← add_field _ _ 1 (by omega)]; exact hc 1 _ rfl, by rw [← add_field _ _ 2 (by omega)]; exact hc 2 _ rfl, by rw [← add_field _ _ 3 (by omega)]; exact hc 3 _ rfl⟩
structure S94 where
  f0 : Bool
  f1 : Int
def z94 : S94 := ⟨false, (0 : Int)⟩
def k94 : Kd S94 := Kd.iso (Kd.pair Kd.bool (Kd.int .i64)) (fun x : S94 => (x.f0, x.f1))
theorem k94_open {w : World} {x : S94} {cs : List Value} (h : k94.K w x cs) : cs = [.bool x.f0, .int .i64 x.f1] := by
  obtain ⟨_, _, rfl, rfl, rfl⟩ := h
  exact rfl
theorem k94_mk (w : World) (x : S94)  : k94.K w x [.bool x.f0, .int .i64 x.f1] := ⟨[.bool x.f0], [.int .i64 x.f1], rfl, rfl, rfl⟩
def rd_T94 (xs : List S94) (i : Int) : S94 := xs.getD i.toNat z94
theorem at_T94 {w : World} {A : Option Addr} {n : Nat} {xs : List S94} (h : Kd.C k94 w A n xs) (i : Int) (h0 : 0 ≤ i) (h1 : i < n) : ∃ ad , A = some ad ∧ w.cell? (ad.add (i.toNat * 2)) = some (.bool (rd_T94 xs i).f0) ∧ w.cell? ⟨(ad.add (i.toNat * 2)).block, (ad.add (i.toNat * 2)).off + 1, none⟩ = some (.int .i64 (rd_T94 xs i).f1) := by
  obtain ⟨ad, c, e, _, hK, hc0⟩ := Kd.C_get h z94 i h0 h1
  have hc : ∀ j u, c[j]? = some u → w.cell? (ad.add (i.toNat * 2 + j)) = some u := hc0
  obtain rfl := k94_open hK
  exact ⟨ad, e, hc 0 _ rfl, by rw [← add_field _ _ 1 (by omega)]; exact hc 1 _ rfl⟩
structure S98 where
  f0 : Int
  f1 : Int
  f2 : ByteArray
  f3 : Int
def z98 : S98 := ⟨(0 : Int), (0 : Int), (⟨#[]⟩ : ByteArray), (0 : Int)⟩
def k98 : Kd S98 := Kd.iso (Kd.pair (Kd.int .i64) (Kd.pair (Kd.int .u64) (Kd.pair Kd.string (Kd.int .i64)))) (fun x : S98 => (x.f0, x.f1, x.f2, x.f3))
theorem k98_open {w : World} {x : S98} {cs : List Value} (h : k98.K w x cs) : cs = [.int .i64 x.f0, .int .u64 x.f1, .string x.f2, .int .i64 x.f3] := by
  obtain ⟨_, _, rfl, rfl, ⟨_, _, rfl, rfl, ⟨_, _, rfl, rfl, rfl⟩⟩⟩ := h
  exact rfl
theorem k98_mk (w : World) (x : S98)  : k98.K w x [.int .i64 x.f0, .int .u64 x.f1, .string x.f2, .int .i64 x.f3] := ⟨[.int .i64 x.f0], [.int .u64 x.f1, .string x.f2, .int .i64 x.f3], rfl, rfl, ⟨[.int .u64 x.f1], [.string x.f2, .int .i64 x.f3], rfl, rfl, ⟨[.string x.f2], [.int .i64 x.f3], rfl, rfl, rfl⟩⟩⟩
def rd_T98 (xs : List S98) (i : Int) : S98 := xs.getD i.toNat z98
theorem at_T98 {w : World} {A : Option Addr} {n : Nat} {xs : List S98} (h : Kd.C k98 w A n xs) (i : Int) (h0 : 0 ≤ i) (h1 : i < n) : ∃ ad , A = some ad ∧ w.cell? (ad.add (i.toNat * 4)) = some (.int .i64 (rd_T98 xs i).f0) ∧ w.cell? ⟨(ad.add (i.toNat * 4)).block, (ad.add (i.toNat * 4)).off + 1, none⟩ = some (.int .u64 (rd_T98 xs i).f1) ∧ w.cell? ⟨(ad.add (i.toNat * 4)).block, (ad.add (i.toNat * 4)).off + 2, none⟩ = some (.string (rd_T98 xs i).f2) ∧ w.cell? ⟨(ad.add (i.toNat * 4)).block, (ad.add (i.toNat * 4)).off + 3, none⟩ = some (.int .i64 (rd_T98 xs i).f3) := by
  obtain ⟨ad, c, e, _, hK, hc0⟩ := Kd.C_get h z98 i h0 h1
  have hc : ∀ j u, c[j]? = some u → w.cell? (ad.add (i.toNat * 4 + j)) = some u := hc0
  obtain rfl := k98_open hK
  exact ⟨ad, e, hc 0 _ rfl, by rw [← add_field _ _ 1 (by omega)]; exact hc 1 _ rfl, by rw [← add_field _ _ 2 (by omega)]; exact hc 2 _ rfl, by rw [← add_field _ _ 3 (by omega)]; exact hc 3 _ rfl⟩
def rd_L7 (xs : List (List S94)) (i : Int) : (List S94) := xs.getD i.toNat ([] : List S94)
def rd_L8 (xs : List (List S36)) (i : Int) : (List S36) := xs.getD i.toNat ([] : List S36)
def rd_L9 (xs : List (List S98)) (i : Int) : (List S98) := xs.getD i.toNat ([] : List S98)
structure S27 where
  f0 : Int
  f1 : Int
  f2 : (List S94)
  f3 : (List S36)
  f4 : (List S98)
  f5 : (List S27)
def z27 : S27 := ⟨(0 : Int), (0 : Int), ([] : List S94), ([] : List S36), ([] : List S98), ([] : List S27)⟩
def F27 (d : Kd S27) : Kd S27 := Kd.iso (Kd.pair (Kd.int .i64) (Kd.pair (Kd.int .i64) (Kd.pair (Kd.slice 94 k94) (Kd.pair (Kd.slice 36 k36) (Kd.pair (Kd.slice 98 k98) (Kd.slice 27 d)))))) (fun x : S27 => (x.f0, x.f1, x.f2, x.f3, x.f4, x.f5))
theorem mono27 : Kd.Mono F27 := Kd.mono_iso _ (Kd.mono_pair (Kd.mono_const _) (Kd.mono_pair (Kd.mono_const _) (Kd.mono_pair (Kd.mono_const _) (Kd.mono_pair (Kd.mono_const _) (Kd.mono_pair (Kd.mono_const _) (Kd.mono_slice 27 Kd.mono_id))))))
theorem sub27 : Kd.Sub F27 [27, 36, 94, 98] := Kd.sub_iso _ (Kd.sub_pair (Kd.sub_const _ (by decide)) (Kd.sub_pair (Kd.sub_const _ (by decide)) (Kd.sub_pair (Kd.sub_const _ (by decide)) (Kd.sub_pair (Kd.sub_const _ (by decide)) (Kd.sub_pair (Kd.sub_const _ (by decide)) (Kd.sub_slice 27 (by decide) Kd.sub_id))))))
theorem sz27 : ∀ n, (Kd.upto F27 6 [27, 36, 94, 98] n).sz = 6 := Kd.upto_sz (fun _ => rfl)
def k27 : Kd S27 := Kd.fix F27 6 [27, 36, 94, 98] sz27 (Kd.upto_E sub27)
theorem k27_open {w : World} {x : S27} {cs : List Value} (h : k27.K w x cs) : ∃ A2 c2 A3 c3 A4 c4 A5 c5, cs = [.int .i64 x.f0, .int .i64 x.f1, .slice A2 x.f2.length c2, .slice A3 x.f3.length c3, .slice A4 x.f4.length c4, .slice A5 x.f5.length c5] ∧ x.f2.length ≤ c2 ∧ k94.C w A2 x.f2.length x.f2 ∧ x.f3.length ≤ c3 ∧ k36.C w A3 x.f3.length x.f3 ∧ x.f4.length ≤ c4 ∧ k98.C w A4 x.f4.length x.f4 ∧ x.f5.length ≤ c5 ∧ k27.C w A5 x.f5.length x.f5 := by
  obtain ⟨n, h⟩ := h
  cases n with
  | zero => exact h.elim
  | succ n =>
    obtain ⟨_, _, rfl, rfl, ⟨_, _, rfl, rfl, ⟨_, _, rfl, ⟨A2, c2, rfl, l2, g2⟩, ⟨_, _, rfl, ⟨A3, c3, rfl, l3, g3⟩, ⟨_, _, rfl, ⟨A4, c4, rfl, l4, g4⟩, ⟨A5, c5, rfl, l5, g5⟩⟩⟩⟩⟩⟩ := h
    exact ⟨A2, c2, A3, c3, A4, c4, A5, c5, rfl, l2, g2, l3, g3, l4, g4, l5, Kd.fix_C g5⟩
theorem k27_mk (w : World) (x : S27) {A2 : Option Addr} {c2 : Nat} (l2 : x.f2.length ≤ c2) (g2 : k94.C w A2 x.f2.length x.f2) {A3 : Option Addr} {c3 : Nat} (l3 : x.f3.length ≤ c3) (g3 : k36.C w A3 x.f3.length x.f3) {A4 : Option Addr} {c4 : Nat} (l4 : x.f4.length ≤ c4) (g4 : k98.C w A4 x.f4.length x.f4) {A5 : Option Addr} {c5 : Nat} (l5 : x.f5.length ≤ c5) (g5 : k27.C w A5 x.f5.length x.f5) : k27.K w x [.int .i64 x.f0, .int .i64 x.f1, .slice A2 x.f2.length c2, .slice A3 x.f3.length c3, .slice A4 x.f4.length c4, .slice A5 x.f5.length c5] := by
  obtain ⟨n5, q5⟩ := Kd.fix_C_back mono27 g5
  have r5 := Kd.upto_C_le mono27 sz27 (show n5 ≤ n5 by omega) q5
  exact ⟨n5 + 1, ⟨[.int .i64 x.f0], [.int .i64 x.f1, .slice A2 x.f2.length c2, .slice A3 x.f3.length c3, .slice A4 x.f4.length c4, .slice A5 x.f5.length c5], rfl, rfl, ⟨[.int .i64 x.f1], [.slice A2 x.f2.length c2, .slice A3 x.f3.length c3, .slice A4 x.f4.length c4, .slice A5 x.f5.length c5], rfl, rfl, ⟨[.slice A2 x.f2.length c2], [.slice A3 x.f3.length c3, .slice A4 x.f4.length c4, .slice A5 x.f5.length c5], rfl, ⟨A2, c2, rfl, l2, g2⟩, ⟨[.slice A3 x.f3.length c3], [.slice A4 x.f4.length c4, .slice A5 x.f5.length c5], rfl, ⟨A3, c3, rfl, l3, g3⟩, ⟨[.slice A4 x.f4.length c4], [.slice A5 x.f5.length c5], rfl, ⟨A4, c4, rfl, l4, g4⟩, ⟨A5, c5, rfl, l5, r5⟩⟩⟩⟩⟩⟩⟩
theorem k27_mkM (w : World) (base : Nat) (ok : Nat → Prop) (x : S27) {v2 : Value} (g2 : k94.R 94 w base ok v2 x.f2) {v3 : Value} (g3 : k36.R 36 w base ok v3 x.f3) {v4 : Value} (g4 : k98.R 98 w base ok v4 x.f4) {v5 : Value} (g5 : k27.R 27 w base ok v5 x.f5) : k27.M w base ok x [.int .i64 x.f0, .int .i64 x.f1, v2, v3, v4, v5] := by
  obtain ⟨n5, q5⟩ := Kd.fix_R_back mono27 g5
  have r5 := Kd.upto_R_le mono27 sz27 (show n5 ≤ n5 by omega) q5
  exact ⟨n5 + 1, ⟨[.int .i64 x.f0], [.int .i64 x.f1, v2, v3, v4, v5], rfl, rfl, ⟨[.int .i64 x.f1], [v2, v3, v4, v5], rfl, rfl, ⟨[v2], [v3, v4, v5], rfl, ⟨v2, rfl, g2⟩, ⟨[v3], [v4, v5], rfl, ⟨v3, rfl, g3⟩, ⟨[v4], [v5], rfl, ⟨v4, rfl, g4⟩, ⟨v5, rfl, r5⟩⟩⟩⟩⟩⟩⟩
def rd_T27 (xs : List S27) (i : Int) : S27 := xs.getD i.toNat z27
theorem at_T27 {w : World} {A : Option Addr} {n : Nat} {xs : List S27} (h : Kd.C k27 w A n xs) (i : Int) (h0 : 0 ≤ i) (h1 : i < n) : ∃ ad A2 c2 A3 c3 A4 c4 A5 c5, A = some ad ∧ w.cell? (ad.add (i.toNat * 6)) = some (.int .i64 (rd_T27 xs i).f0) ∧ w.cell? ⟨(ad.add (i.toNat * 6)).block, (ad.add (i.toNat * 6)).off + 1, none⟩ = some (.int .i64 (rd_T27 xs i).f1) ∧ w.cell? ⟨(ad.add (i.toNat * 6)).block, (ad.add (i.toNat * 6)).off + 2, none⟩ = some (.slice A2 (rd_T27 xs i).f2.length c2) ∧ w.cell? ⟨(ad.add (i.toNat * 6)).block, (ad.add (i.toNat * 6)).off + 3, none⟩ = some (.slice A3 (rd_T27 xs i).f3.length c3) ∧ w.cell? ⟨(ad.add (i.toNat * 6)).block, (ad.add (i.toNat * 6)).off + 4, none⟩ = some (.slice A4 (rd_T27 xs i).f4.length c4) ∧ w.cell? ⟨(ad.add (i.toNat * 6)).block, (ad.add (i.toNat * 6)).off + 5, none⟩ = some (.slice A5 (rd_T27 xs i).f5.length c5) ∧ (rd_T27 xs i).f2.length ≤ c2 ∧ k94.C w A2 (rd_T27 xs i).f2.length (rd_T27 xs i).f2 ∧ (rd_T27 xs i).f3.length ≤ c3 ∧ k36.C w A3 (rd_T27 xs i).f3.length (rd_T27 xs i).f3 ∧ (rd_T27 xs i).f4.length ≤ c4 ∧ k98.C w A4 (rd_T27 xs i).f4.length (rd_T27 xs i).f4 ∧ (rd_T27 xs i).f5.length ≤ c5 ∧ k27.C w A5 (rd_T27 xs i).f5.length (rd_T27 xs i).f5 := by
  obtain ⟨ad, c, e, _, hK, hc0⟩ := Kd.C_get h z27 i h0 h1
  have hc : ∀ j u, c[j]? = some u → w.cell? (ad.add (i.toNat * 6 + j)) = some u := hc0
  obtain ⟨A2, c2, A3, c3, A4, c4, A5, c5, rfl, l2, g2, l3, g3, l4, g4, l5, g5⟩ := k27_open hK
  exact ⟨ad, A2, c2, A3, c3, A4, c4, A5, c5, e, hc 0 _ rfl, by rw [← add_field _ _ 1 (by omega)]; exact hc 1 _ rfl, by rw [← add_field _ _ 2 (by omega)]; exact hc 2 _ rfl, by rw [← add_field _ _ 3 (by omega)]; exact hc 3 _ rfl, by rw [← add_field _ _ 4 (by omega)]; exact hc 4 _ rfl, by rw [← add_field _ _ 5 (by omega)]; exact hc 5 _ rfl, l2, g2, l3, g3, l4, g4, l5, g5⟩
structure S63 where
  f0 : ByteArray
  f1 : ByteArray
  f2 : Int
def z63 : S63 := ⟨(⟨#[]⟩ : ByteArray), (⟨#[]⟩ : ByteArray), (0 : Int)⟩
def k63 : Kd S63 := Kd.iso (Kd.pair Kd.string (Kd.pair Kd.string (Kd.int .i64))) (fun x : S63 => (x.f0, x.f1, x.f2))
def rd_T63 (xs : List S63) (i : Int) : S63 := xs.getD i.toNat z63
structure S44 where
  f0 : Int
  f1 : Int
  f2 : ByteArray
  f3 : (List S44)
def z44 : S44 := ⟨(0 : Int), (0 : Int), (⟨#[]⟩ : ByteArray), ([] : List S44)⟩
def F44 (d : Kd S44) : Kd S44 := Kd.iso (Kd.pair (Kd.int .i64) (Kd.pair (Kd.int .u64) (Kd.pair Kd.string (Kd.slice 44 d)))) (fun x : S44 => (x.f0, x.f1, x.f2, x.f3))
theorem sub44 : Kd.Sub F44 [44] := Kd.sub_iso _ (Kd.sub_pair (Kd.sub_const _ (by decide)) (Kd.sub_pair (Kd.sub_const _ (by decide)) (Kd.sub_pair (Kd.sub_const _ (by decide)) (Kd.sub_slice 44 (by decide) Kd.sub_id))))
theorem sz44 : ∀ n, (Kd.upto F44 4 [44] n).sz = 4 := Kd.upto_sz (fun _ => rfl)
def k44 : Kd S44 := Kd.fix F44 4 [44] sz44 (Kd.upto_E sub44)
def rd_T44 (xs : List S44) (i : Int) : S44 := xs.getD i.toNat z44
structure S90 where
  f0 : Int
  f1 : Int
  f2 : ByteArray
  f3 : Int
  f4 : Int
  f5 : Int
  f6 : (List S94)
  f7 : (List S90)
def z90 : S90 := ⟨(0 : Int), (0 : Int), (⟨#[]⟩ : ByteArray), (0 : Int), (0 : Int), (0 : Int), ([] : List S94), ([] : List S90)⟩
def F90 (d : Kd S90) : Kd S90 := Kd.iso (Kd.pair (Kd.int .i64) (Kd.pair (Kd.int .i64) (Kd.pair Kd.string (Kd.pair (Kd.int .u64) (Kd.pair (Kd.int .i64) (Kd.pair (Kd.int .i64) (Kd.pair (Kd.slice 94 k94) (Kd.slice 90 d)))))))) (fun x : S90 => (x.f0, x.f1, x.f2, x.f3, x.f4, x.f5, x.f6, x.f7))
theorem sub90 : Kd.Sub F90 [90, 94] := Kd.sub_iso _ (Kd.sub_pair (Kd.sub_const _ (by decide)) (Kd.sub_pair (Kd.sub_const _ (by decide)) (Kd.sub_pair (Kd.sub_const _ (by decide)) (Kd.sub_pair (Kd.sub_const _ (by decide)) (Kd.sub_pair (Kd.sub_const _ (by decide)) (Kd.sub_pair (Kd.sub_const _ (by decide)) (Kd.sub_pair (Kd.sub_const _ (by decide)) (Kd.sub_slice 90 (by decide) Kd.sub_id))))))))
theorem sz90 : ∀ n, (Kd.upto F90 8 [90, 94] n).sz = 8 := Kd.upto_sz (fun _ => rfl)
def k90 : Kd S90 := Kd.fix F90 8 [90, 94] sz90 (Kd.upto_E sub90)
theorem k90_open {w : World} {x : S90} {cs : List Value} (h : k90.K w x cs) : ∃ A6 c6 A7 c7, cs = [.int .i64 x.f0, .int .i64 x.f1, .string x.f2, .int .u64 x.f3, .int .i64 x.f4, .int .i64 x.f5, .slice A6 x.f6.length c6, .slice A7 x.f7.length c7] ∧ x.f6.length ≤ c6 ∧ k94.C w A6 x.f6.length x.f6 ∧ x.f7.length ≤ c7 ∧ k90.C w A7 x.f7.length x.f7 := by
  obtain ⟨n, h⟩ := h
  cases n with
  | zero => exact h.elim
  | succ n =>
    obtain ⟨_, _, rfl, rfl, ⟨_, _, rfl, rfl, ⟨_, _, rfl, rfl, ⟨_, _, rfl, rfl, ⟨_, _, rfl, rfl, ⟨_, _, rfl, rfl, ⟨_, _, rfl, ⟨A6, c6, rfl, l6, g6⟩, ⟨A7, c7, rfl, l7, g7⟩⟩⟩⟩⟩⟩⟩⟩ := h
    exact ⟨A6, c6, A7, c7, rfl, l6, g6, l7, Kd.fix_C g7⟩
def rd_T90 (xs : List S90) (i : Int) : S90 := xs.getD i.toNat z90
theorem at_T90 {w : World} {A : Option Addr} {n : Nat} {xs : List S90} (h : Kd.C k90 w A n xs) (i : Int) (h0 : 0 ≤ i) (h1 : i < n) : ∃ ad A6 c6 A7 c7, A = some ad ∧ w.cell? (ad.add (i.toNat * 8)) = some (.int .i64 (rd_T90 xs i).f0) ∧ w.cell? ⟨(ad.add (i.toNat * 8)).block, (ad.add (i.toNat * 8)).off + 1, none⟩ = some (.int .i64 (rd_T90 xs i).f1) ∧ w.cell? ⟨(ad.add (i.toNat * 8)).block, (ad.add (i.toNat * 8)).off + 2, none⟩ = some (.string (rd_T90 xs i).f2) ∧ w.cell? ⟨(ad.add (i.toNat * 8)).block, (ad.add (i.toNat * 8)).off + 3, none⟩ = some (.int .u64 (rd_T90 xs i).f3) ∧ w.cell? ⟨(ad.add (i.toNat * 8)).block, (ad.add (i.toNat * 8)).off + 4, none⟩ = some (.int .i64 (rd_T90 xs i).f4) ∧ w.cell? ⟨(ad.add (i.toNat * 8)).block, (ad.add (i.toNat * 8)).off + 5, none⟩ = some (.int .i64 (rd_T90 xs i).f5) ∧ w.cell? ⟨(ad.add (i.toNat * 8)).block, (ad.add (i.toNat * 8)).off + 6, none⟩ = some (.slice A6 (rd_T90 xs i).f6.length c6) ∧ w.cell? ⟨(ad.add (i.toNat * 8)).block, (ad.add (i.toNat * 8)).off + 7, none⟩ = some (.slice A7 (rd_T90 xs i).f7.length c7) ∧ (rd_T90 xs i).f6.length ≤ c6 ∧ k94.C w A6 (rd_T90 xs i).f6.length (rd_T90 xs i).f6 ∧ (rd_T90 xs i).f7.length ≤ c7 ∧ k90.C w A7 (rd_T90 xs i).f7.length (rd_T90 xs i).f7 := by
  obtain ⟨ad, c, e, _, hK, hc0⟩ := Kd.C_get h z90 i h0 h1
  have hc : ∀ j u, c[j]? = some u → w.cell? (ad.add (i.toNat * 8 + j)) = some u := hc0
  obtain ⟨A6, c6, A7, c7, rfl, l6, g6, l7, g7⟩ := k90_open hK
  exact ⟨ad, A6, c6, A7, c7, e, hc 0 _ rfl, by rw [← add_field _ _ 1 (by omega)]; exact hc 1 _ rfl, by rw [← add_field _ _ 2 (by omega)]; exact hc 2 _ rfl, by rw [← add_field _ _ 3 (by omega)]; exact hc 3 _ rfl, by rw [← add_field _ _ 4 (by omega)]; exact hc 4 _ rfl, by rw [← add_field _ _ 5 (by omega)]; exact hc 5 _ rfl, by rw [← add_field _ _ 6 (by omega)]; exact hc 6 _ rfl, by rw [← add_field _ _ 7 (by omega)]; exact hc 7 _ rfl, l6, g6, l7, g7⟩
def rd_L15 (xs : List (List S27)) (i : Int) : (List S27) := xs.getD i.toNat ([] : List S27)
end Go.Proofs.YtlhnkfheojlghaaDoor.Pr
end
section
namespace Go.Proofs.YtlhnkfheojlghaaDoor.Pr
open Go.RowKit Go.Proofs.YtlhnkfheojlghaaDoorW.PrintWords Go.Proofs.YtlhnkfheojlghaaDoorW.PrintLast Go.Proofs.YtlhnkfheojlghaaDoorW.PrintMore
theorem am {p : Prop} (h : p) : Aside0 p := ⟨h⟩
abbrev zS_ : Array Value := #[.int .u64 0, .int .u64 0, .slice none 0 0, .int .i64 0, .int .u64 0, .string (⟨#[]⟩ : ByteArray), .slice none 0 0, .int .i64 0, .int .u64 0, .string (⟨#[]⟩ : ByteArray), .slice none 0 0]
theorem pB {p : Prop} (h : p := by repeat (first | (with_reducible first | exact HB.out | apply below_alloc | apply pw_below_drewN | apply below_drew1 | refine below_set ?_ (Aside0.out (by with_reducible assumption))) | exact HB.out)) : p := h
theorem pK {p q : Prop} (h : p) (f : p → q := by intro h_; (with_reducible repeat (first | refine blk_drewN ?_ _ | refine blk_drew ?_ | refine blk_alloc ?_ _)); exact h_) : q := f h
theorem pkb {W W1 W2 : World} {g : Nat} {o : Obj} (h : W.heap[g]? = some o) (hb : Below W1.heap.size W1 W2) (f : W.heap[g]? = some o → W1.heap[g]? = some o := by intro h_; (with_reducible repeat (first | refine blk_drewN ?_ _ | refine blk_drew ?_ | refine blk_alloc ?_ _)); exact h_) : W2.heap[g]? = some o := blk_below (f h) hb
theorem pkl {W W1 : World} {g : Nat} {o : Obj} (h : W.heap[g]? = some o) (f : W.heap[g]? = some o → W1.heap[g]? = some o := by intro h_; (with_reducible repeat (first | refine blk_drewN ?_ _ | refine blk_drew ?_ | refine blk_alloc ?_ _)); exact h_) : g < W1.heap.size := blk_lt (f h)
theorem pR {p q : Prop} (h : p) (f : p → q := by intro h_; (with_reducible repeat (first | apply Kd.R_alloc | apply Kd.R_drewN | apply Kd.R_drew)); exact h_) : q := f h
theorem pC {p q : Prop} (h : p) (f : p → q := by intro h_; (repeat (first | exact h_ | (with_reducible refine Kd.C_alloc ?_ _) | (with_reducible refine Kd.C_drewN ?_ _) | (with_reducible refine Kd.C_drew ?_)))) : q := f h
theorem pM {p : Prop} (h : p := by (try simp only [List.map_toArray, List.map_cons, List.map_nil]); first | done | rfl | (simp only [List.length_drop, List.length_take]; rfl)) : p := h
theorem pE {p : Prop} (h : p := by first | rfl | (simp [errW_none, errW_some] <;> rfl) | (simp [*, errW_none, errW_some] <;> rfl)) : p := h
theorem pZ {p : Prop} (h : p := by first | exact Kd.R_nil _ _ _ _ _ | exact Kd.N_nil _ _ _ _ _ | exact Kd.V_nil _ _ _ _ _ | exact Kd.Q_nil _ _ _ _ _ | exact Kd.S_nil _ _ _ _ _) : p := h
theorem pD {p : Prop} [Decidable p] (h : decide p = true := by first | (with_reducible assumption) | assumption) : p := of_decide_eq_true h
theorem pG {p : Prop} (h : p := by first | (with_reducible exact HG.out) | (with_reducible exact globDrewN HG.out _) | exact globBelow HG.out pB | exact globBelow HG.out pB | (repeat (first | (with_reducible exact HG.out) | apply globDrewN | apply globDrew))) : p := h
theorem pA {p : Prop} (h : p := by simp only [Act.put, List.setIfInBounds_toArray, List.set_cons_zero, List.set_cons_succ, i64_w, i32_w]; try rfl) : p := h
theorem pA2 {p : Prop} (h : p := by simp only [putAll, Act.put, List.setIfInBounds_toArray, List.set_cons_zero, List.set_cons_succ]; try rfl) : p := h
theorem pX {α : Type} {d : Kd α} {e : Nat} {w : World} {base : Nat} {ok : Nat → Prop} {v : Value} {xs : List α} {g t : Nat} {cells : Array Value} (h : d.R e w base ok v xs) (hb : w.heap[g]? = some (.cells cells t (0, 0))) (ht : e ≠ t ∨ ∀ k, ok k → k ≠ g := by first | (left; decide) | (right; intro k_ h_; first | exact h_ | exact h_.2 | exact h_.1.2 | exact h_.2.2 | exact h_.2.1 | exact h_.1.1.2 | exact h_.1.2.2 | exact h_.2.2.1 | exact h_.2.2.2)) : some g ≠ v.ownBlock := by
 rcases ht with ht | ht
 ·exact Kd.R_ne h hb ht
 ·intro e_
  exact ht g (h.1 g e_.symm) rfl
def bm (n k : Nat) : Array Bool := ((List.range n).map (Nat.testBit k)).toArray
theorem cz0 {W : World} {g : Nat} {t : TypeId} {x0 : Value} {l : List Value} (h : W.heap[g]? = some (.cells (List.toArray (x0 :: l)) t (0, 0))) : W.cell? ⟨g, 0, none⟩ = some x0 := (blk_cell h 0).trans rfl
theorem cz1 {W : World} {g : Nat} {t : TypeId} {x0 x1 : Value} {l : List Value} (h : W.heap[g]? = some (.cells (List.toArray (x0 :: x1 :: l)) t (0, 0))) : W.cell? ⟨g, 1, none⟩ = some x1 := (blk_cell h 1).trans rfl
theorem cz2 {W : World} {g : Nat} {t : TypeId} {x0 x1 x2 : Value} {l : List Value} (h : W.heap[g]? = some (.cells (List.toArray (x0 :: x1 :: x2 :: l)) t (0, 0))) : W.cell? ⟨g, 2, none⟩ = some x2 := (blk_cell h 2).trans rfl
theorem cz3 {W : World} {g : Nat} {t : TypeId} {x0 x1 x2 x3 : Value} {l : List Value} (h : W.heap[g]? = some (.cells (List.toArray (x0 :: x1 :: x2 :: x3 :: l)) t (0, 0))) : W.cell? ⟨g, 3, none⟩ = some x3 := (blk_cell h 3).trans rfl
theorem cz4 {W : World} {g : Nat} {t : TypeId} {x0 x1 x2 x3 x4 : Value} {l : List Value} (h : W.heap[g]? = some (.cells (List.toArray (x0 :: x1 :: x2 :: x3 :: x4 :: l)) t (0, 0))) : W.cell? ⟨g, 4, none⟩ = some x4 := (blk_cell h 4).trans rfl
theorem cz5 {W : World} {g : Nat} {t : TypeId} {x0 x1 x2 x3 x4 x5 : Value} {l : List Value} (h : W.heap[g]? = some (.cells (List.toArray (x0 :: x1 :: x2 :: x3 :: x4 :: x5 :: l)) t (0, 0))) : W.cell? ⟨g, 5, none⟩ = some x5 := (blk_cell h 5).trans rfl
theorem cf2 {W : World} {g : Nat} {t : TypeId} {x0 x1 : Value} (h : W.heap[g]? = some (.cells #[x0, x1] t (0, 0))) : W.cell? ⟨g, 0, none⟩ = some x0 ∧ W.cell? ⟨g, 1, none⟩ = some x1 ∧ W.frozen? ⟨g, 0, none⟩ = false ∧ W.frozen? ⟨g, 1, none⟩ = false := ⟨(blk_cell h 0).trans rfl, (blk_cell h 1).trans rfl, blk_frozen h 0, blk_frozen h 1⟩
theorem cf4 {W : World} {g : Nat} {t : TypeId} {x0 x1 x2 x3 : Value} (h : W.heap[g]? = some (.cells #[x0, x1, x2, x3] t (0, 0))) : W.cell? ⟨g, 0, none⟩ = some x0 ∧ W.cell? ⟨g, 1, none⟩ = some x1 ∧ W.cell? ⟨g, 2, none⟩ = some x2 ∧ W.cell? ⟨g, 3, none⟩ = some x3 ∧ W.frozen? ⟨g, 0, none⟩ = false ∧ W.frozen? ⟨g, 1, none⟩ = false ∧ W.frozen? ⟨g, 2, none⟩ = false ∧ W.frozen? ⟨g, 3, none⟩ = false := ⟨(blk_cell h 0).trans rfl, (blk_cell h 1).trans rfl, (blk_cell h 2).trans rfl, (blk_cell h 3).trans rfl, blk_frozen h 0, blk_frozen h 1, blk_frozen h 2, blk_frozen h 3⟩
theorem cf6 {W : World} {g : Nat} {t : TypeId} {x0 x1 x2 x3 x4 x5 : Value} (h : W.heap[g]? = some (.cells #[x0, x1, x2, x3, x4, x5] t (0, 0))) : W.cell? ⟨g, 0, none⟩ = some x0 ∧ W.cell? ⟨g, 1, none⟩ = some x1 ∧ W.cell? ⟨g, 2, none⟩ = some x2 ∧ W.cell? ⟨g, 3, none⟩ = some x3 ∧ W.cell? ⟨g, 4, none⟩ = some x4 ∧ W.cell? ⟨g, 5, none⟩ = some x5 ∧ W.frozen? ⟨g, 0, none⟩ = false ∧ W.frozen? ⟨g, 1, none⟩ = false ∧ W.frozen? ⟨g, 2, none⟩ = false ∧ W.frozen? ⟨g, 3, none⟩ = false ∧ W.frozen? ⟨g, 4, none⟩ = false ∧ W.frozen? ⟨g, 5, none⟩ = false := ⟨(blk_cell h 0).trans rfl, (blk_cell h 1).trans rfl, (blk_cell h 2).trans rfl, (blk_cell h 3).trans rfl, (blk_cell h 4).trans rfl, (blk_cell h 5).trans rfl, blk_frozen h 0, blk_frozen h 1, blk_frozen h 2, blk_frozen h 3, blk_frozen h 4, blk_frozen h 5⟩
theorem cf8 {W : World} {g : Nat} {t : TypeId} {x0 x1 x2 x3 x4 x5 x6 x7 : Value} (h : W.heap[g]? = some (.cells #[x0, x1, x2, x3, x4, x5, x6, x7] t (0, 0))) : W.cell? ⟨g, 0, none⟩ = some x0 ∧ W.cell? ⟨g, 1, none⟩ = some x1 ∧ W.cell? ⟨g, 2, none⟩ = some x2 ∧ W.cell? ⟨g, 3, none⟩ = some x3 ∧ W.cell? ⟨g, 4, none⟩ = some x4 ∧ W.cell? ⟨g, 5, none⟩ = some x5 ∧ W.cell? ⟨g, 6, none⟩ = some x6 ∧ W.cell? ⟨g, 7, none⟩ = some x7 ∧ W.frozen? ⟨g, 0, none⟩ = false ∧ W.frozen? ⟨g, 1, none⟩ = false ∧ W.frozen? ⟨g, 2, none⟩ = false ∧ W.frozen? ⟨g, 3, none⟩ = false ∧ W.frozen? ⟨g, 4, none⟩ = false ∧ W.frozen? ⟨g, 5, none⟩ = false ∧ W.frozen? ⟨g, 6, none⟩ = false ∧ W.frozen? ⟨g, 7, none⟩ = false := ⟨(blk_cell h 0).trans rfl, (blk_cell h 1).trans rfl, (blk_cell h 2).trans rfl, (blk_cell h 3).trans rfl, (blk_cell h 4).trans rfl, (blk_cell h 5).trans rfl, (blk_cell h 6).trans rfl, (blk_cell h 7).trans rfl, blk_frozen h 0, blk_frozen h 1, blk_frozen h 2, blk_frozen h 3, blk_frozen h 4, blk_frozen h 5, blk_frozen h 6, blk_frozen h 7⟩
end Go.Proofs.YtlhnkfheojlghaaDoor.Pr
end
section
namespace Go.Proofs.YtlhnkfheojlghaaDoor.Pr
open Go.RowKit Go.Proofs.YtlhnkfheojlghaaDoorW.PrintWords Go.Proofs.YtlhnkfheojlghaaDoorW.PrintLast Go.Proofs.YtlhnkfheojlghaaDoorW.PrintMore Go.Shelf
shelf_lay LaysM.n171 Nm 171 at Tryd as Tryd.laysItoa
theorem fItoa : Tryd.laysItoa_ren.f 171 = 45 := by kernel_rfl
theorem gPow : Tryd.prog.globalNamed "internal/strconv.uint64pow10" = some 1 := by kernel_rfl
def PowOnly (w : World) : Prop := Lib.TabIs Tryd.prog w "internal/strconv.uint64pow10" .u64 Lib.pow10Tab
def ordersL : List S63 := [⟨⟨#[99, 111, 110, 115, 116]⟩, ⟨#[82, 75]⟩, 1⟩, ⟨⟨#[109, 111, 118, 101]⟩, ⟨#[82, 82]⟩, 1⟩, ⟨⟨#[115, 104, 105, 102, 116]⟩, ⟨#[82, 82]⟩, 0⟩, ⟨⟨#[99, 108, 101, 97, 114]⟩, ⟨#[82]⟩, 0⟩, ⟨⟨#[110, 101, 119, 98, 111, 120]⟩, ⟨#[82, 82]⟩, 0⟩, ⟨⟨#[103, 101, 116, 98, 111, 120]⟩, ⟨#[82, 82]⟩, 1⟩, ⟨⟨#[115, 101, 116, 98, 111, 120]⟩, ⟨#[82, 82]⟩, 1⟩, ⟨⟨#[103, 101, 116, 117, 112]⟩, ⟨#[82, 85]⟩, 1⟩, ⟨⟨#[115, 101, 116, 117, 112]⟩, ⟨#[85, 82]⟩, 1⟩, ⟨⟨#[103, 101, 116, 103, 108, 111, 98, 97, 108]⟩, ⟨#[82, 75]⟩, 1⟩, ⟨⟨#[115, 101, 116, 103, 108, 111, 98, 97, 108]⟩, ⟨#[75, 82]⟩, 1⟩, ⟨⟨#[105, 110, 100, 101, 120]⟩, ⟨#[82, 82, 82]⟩, 1⟩, ⟨⟨#[115, 101, 116, 105, 110, 100, 101, 120]⟩, ⟨#[82, 82, 82]⟩, 1⟩, ⟨⟨#[109, 97, 107, 101]⟩, ⟨#[82]⟩, 1⟩, ⟨⟨#[110, 111, 116]⟩, ⟨#[82, 82]⟩, 1⟩, ⟨⟨#[110, 101, 103]⟩, ⟨#[82, 82]⟩, 1⟩, ⟨⟨#[108, 101, 110]⟩, ⟨#[82, 82]⟩, 1⟩, ⟨⟨#[97, 100, 100]⟩, ⟨#[82, 82, 82]⟩, 1⟩, ⟨⟨#[115, 117, 98]⟩, ⟨#[82, 82, 82]⟩, 1⟩, ⟨⟨#[109, 117, 108]⟩, ⟨#[82, 82, 82]⟩, 1⟩, ⟨⟨#[100, 105, 118]⟩, ⟨#[82, 82, 82]⟩, 1⟩, ⟨⟨#[109, 111, 100]⟩, ⟨#[82, 82, 82]⟩, 1⟩, ⟨⟨#[99, 111, 110, 99, 97, 116]⟩, ⟨#[82, 82, 82]⟩, 1⟩, ⟨⟨#[101, 113]⟩, ⟨#[82, 82, 82]⟩, 1⟩, ⟨⟨#[110, 101]⟩, ⟨#[82, 82, 82]⟩, 1⟩, ⟨⟨#[108, 116]⟩, ⟨#[82, 82, 82]⟩, 1⟩, ⟨⟨#[108, 101]⟩, ⟨#[82, 82, 82]⟩, 1⟩, ⟨⟨#[103, 116]⟩, ⟨#[82, 82, 82]⟩, 1⟩, ⟨⟨#[103, 101]⟩, ⟨#[82, 82, 82]⟩, 1⟩, ⟨⟨#[106, 117, 109, 112]⟩, ⟨#[79]⟩, 0⟩, ⟨⟨#[106, 117, 109, 112, 105, 102]⟩, ⟨#[82, 79]⟩, 0⟩, ⟨⟨#[106, 117, 109, 112, 110, 111, 116]⟩, ⟨#[82, 79]⟩, 0⟩, ⟨⟨#[99, 97, 108, 108]⟩, ⟨#[82, 78]⟩, 1⟩, ⟨⟨#[114, 101, 116, 117, 114, 110]⟩, ⟨#[82]⟩, 1⟩, ⟨⟨#[101, 110, 100]⟩, ⟨#[]⟩, 0⟩, ⟨⟨#[99, 108, 111, 115, 117, 114, 101]⟩, ⟨#[82, 80]⟩, 1⟩, ⟨⟨#[102, 111, 114, 99, 104, 101, 99, 107]⟩, ⟨#[82, 79]⟩, 1⟩, ⟨⟨#[102, 111, 114, 115, 116, 101, 112]⟩, ⟨#[82, 79]⟩, 1⟩]
def TabLaid (w : World) : Prop := ∀ i, i < 38 → w.cell? ⟨0, i * 3, none⟩ = some (.string (ordersL.getD i z63).f0) ∧ w.cell? ⟨0, i * 3 + 1, none⟩ = some (.string (ordersL.getD i z63).f1) ∧ w.cell? ⟨0, i * 3 + 2, none⟩ = some (.int .i64 (ordersL.getD i z63).f2)
def OrdersLaid (w : World) : Prop := PowOnly w ∧ TabLaid w
theorem powBelow {w w' : World} (h : PowOnly w) (hb : Below w.heap.size w w') : PowOnly w' := by
  have hlt := World.block_lt_of_cell? w _ (h.cell gPow 0 (by decide))
  unfold PowOnly Lib.TabIs World.var? at h ⊢
  rw [gPow] at h ⊢
  simp only [Option.bind_some] at h ⊢
  rw [hb.block _ hlt]
  exact h
theorem globBelow {w w' : World} (h : OrdersLaid w) (hb : Below w.heap.size w w') : OrdersLaid w' := ⟨powBelow h.1 hb, fun i hi => ⟨pw_cell_below hb (h.2 i hi).1, pw_cell_below hb (h.2 i hi).2.1, pw_cell_below hb (h.2 i hi).2.2⟩⟩
theorem globDrewN {w : World} (h : OrdersLaid w) (n : Nat) : OrdersLaid (w.drewN n) := h
theorem globDrew {w : World} (h : OrdersLaid w) : OrdersLaid w.drew := h
theorem below_grow (w : World) (n : Nat) (os : Array Obj) : Below w.heap.size w (Go.Sort.grow (w.drewN n) os) := ⟨rfl, rfl, rfl, by
    show w.heap.size ≤ (w.heap ++ os).size
    rw [Array.size_append]; omega, fun k hk => by
    show (w.heap ++ os)[k]? = w.heap[k]?
    exact Array.getElem?_append_left hk⟩
def itoaOf (n : Int) : ByteArray := ⟨(Lib.itoa n).toArray⟩
def strconv_Itoa.f (a0 : Int) : Option ByteArray := if -9223372036854775808 ≤ a0 ∧ a0 ≤ 9223372036854775807 then some (itoaOf a0) else none
theorem strconv_Itoa.calls (a0 : Int) (r : ByteArray) (w : World) (hG : OrdersLaid w) (h : strconv_Itoa.f a0 = some r) :
    Calls Tryd.prog 45 #[.int .i64 a0] w fun e w' => e = .returned (.string r) ∧ Below w.heap.size w w' := by
  unfold strconv_Itoa.f at h
  by_cases hs : -9223372036854775808 ≤ a0 ∧ a0 ≤ 9223372036854775807
  · rw [if_pos hs] at h
    obtain rfl := Option.some.inj h
    have := Any.strconv_Itoa { Tryd.laysItoa with } a0 hs.1 hs.2 w hG.1
    rw [fItoa] at this
    exact this.mono fun e w' ⟨h1, k, os, h2⟩ => ⟨h1, by rw [h2]; exact below_grow w k os⟩
  · rw [if_neg hs] at h
    exact absurd h (by simp)
def prog_of.f (a0 : Int) : Option (ByteArray × ByteArray × Int × Bool) := if 0 ≤ a0 then (if a0 < 38 then some ((ordersL.getD a0.toNat z63).f0, (ordersL.getD a0.toNat z63).f1, (ordersL.getD a0.toNat z63).f2, true) else some (⟨#[110, 111, 110, 101]⟩, ⟨#[]⟩, 0, false)) else some (⟨#[110, 111, 110, 101]⟩, ⟨#[]⟩, 0, false)
set_option maxHeartbeats 800000 in
set_option maxRecDepth 100000 in
theorem prog_of.calls (a0 : Int) (r1 : ByteArray) (r2 : ByteArray) (r3 : Int) (r4 : Bool) (w : World) (hG : OrdersLaid w) (h : prog_of.f a0 = some (r1, r2, r3, r4)) :
    Calls Tryd.prog 36 #[.int .i64 a0] w fun e w' => e = .returned (.tuple #[.agg #[.string r1, .string r2, .int .i64 r3], .bool r4]) ∧ Below w.heap.size w w' := by
  have HB := Aside0.mk (Below.refl w.heap.size w)
  unfold prog_of.f at h
  by_cases h1 : 0 ≤ a0
  · rw [if_pos h1] at h
    have n1 : ¬ a0 < 0 := by omega
    by_cases h2 : a0 < 38
    · rw [if_pos h2] at h
      simp only [Option.some.injEq, Prod.mk.injEq] at h
      have n2 : ¬ 38 ≤ a0 := by omega
      have HT := Aside0.mk (show a0.toNat < 38 by omega)
      obtain ⟨g0, g1, g2⟩ := (globBelow hG ((Below.refl w.heap.size w).alloc (Nat.le_refl _) (.cells #[.string ⟨#[]⟩, .string ⟨#[]⟩, .int .i64 0] 63))).2 a0.toNat HT.out
      rw [h.1] at g0
      rw [h.2.1] at g1
      rw [h.2.2.1] at g2
      obtain ⟨-, -, -, rfl⟩ := h
      have q1 : (0 ≤ a0) = True := eq_true h1
      have q2 : (a0 < 38) = True := eq_true h2
      clear hG
      go_enter Tryd.func36, Tryd.ntmps36
      go_wp2
      refine bodyPost_ret (results_ct rfl _ _ w.heap.size 63 #[.string r1, .string r2, .int .i64 r3] (0, 0) _ (by rfl) (by exact heap_alloc_new w _) (by exact Tryd.underlying63) (by rfl) (by kernel_rfl)) rfl ?_
      exact ⟨rfl, (Below.refl w.heap.size w).alloc (Nat.le_refl _) _⟩
    · rw [if_neg h2] at h
      simp only [Option.some.injEq, Prod.mk.injEq] at h
      obtain ⟨rfl, rfl, rfl, rfl⟩ := h
      have n2 : 38 ≤ a0 := by omega
      clear hG h2
      go_enter Tryd.func36, Tryd.ntmps36
      go_wp2
      refine bodyPost_ret (results_ct rfl _ _ w.heap.size 63 #[.string ⟨#[110, 111, 110, 101]⟩, .string ⟨#[]⟩, .int .i64 0] (0, 0) _ (by rfl) (by exact heap_alloc_new w _) (by exact Tryd.underlying63) (by rfl) (by kernel_rfl)) rfl ?_
      exact ⟨rfl, (Below.refl w.heap.size w).alloc (Nat.le_refl _) _⟩
  · rw [if_neg h1] at h
    simp only [Option.some.injEq, Prod.mk.injEq] at h
    obtain ⟨rfl, rfl, rfl, rfl⟩ := h
    have n1 : a0 < 0 := by omega
    clear hG h1
    go_enter Tryd.func36, Tryd.ntmps36
    go_wp2
    refine bodyPost_ret (results_ct rfl _ _ w.heap.size 63 #[.string ⟨#[110, 111, 110, 101]⟩, .string ⟨#[]⟩, .int .i64 0] (0, 0) _ (by rfl) (by exact heap_alloc_new w _) (by exact Tryd.underlying63) (by rfl) (by kernel_rfl)) rfl ?_
    exact ⟨rfl, (Below.refl w.heap.size w).alloc (Nat.le_refl _) _⟩
end Go.Proofs.YtlhnkfheojlghaaDoor.Pr
end
section
namespace Go.Proofs.YtlhnkfheojlghaaDoor.Flo
open Go Ieee
def rung (a : Nat) : Nat := a % 9223372036854775808
def nanB (a : Nat) : Bool := decide (9218868437227405312 < rung a)
def infB (a : Nat) : Bool := decide (rung a = 9218868437227405312)
theorem read_eq (a : Nat) : double.read a = if rung a < 4503599627370496 then .number (a / 9223372036854775808 % 2 == 1) (rung a) (-1074) else if rung a < 9218868437227405312 then .number (a / 9223372036854775808 % 2 == 1) (4503599627370496 + rung a % 4503599627370496) (-1074 + ((rung a / 4503599627370496 - 1 : Nat) : Int)) else if rung a = 9218868437227405312 then .infinity (a / 9223372036854775808 % 2 == 1) else .nan (a / 9223372036854775808 % 2 == 1) (rung a - 9218868437227405312) := rfl
theorem read_nan {a : Nat} (h : nanB a = true) : double.read a = .nan (a / 9223372036854775808 % 2 == 1) (rung a - 9218868437227405312) := by
  have h := of_decide_eq_true h
  rw [read_eq, if_neg (by omega), if_neg (by omega), if_neg (by omega)]
theorem read_inf {a : Nat} (h : infB a = true) : double.read a = .infinity (a / 9223372036854775808 % 2 == 1) := by
  have h := of_decide_eq_true h
  rw [read_eq, if_neg (by omega), if_neg (by omega), if_pos h]
def units (r : Nat) : Nat := if r < 4503599627370496 then r else (4503599627370496 + r % 4503599627370496) * 2 ^ (r / 4503599627370496 - 1)
theorem read_fin {a : Nat} (h1 : nanB a = false) (h2 : infB a = false) : ∃ (m k : Nat), double.read a = .number (a / 9223372036854775808 % 2 == 1) m (-1074 + (k : Int)) ∧ m * 2 ^ k = units (rung a) := by
  have h1 := of_decide_eq_false h1
  have h2 := of_decide_eq_false h2
  rw [read_eq]
  unfold units
  by_cases h : rung a < 4503599627370496
  · rw [if_pos h, if_pos h]
    exact ⟨_, 0, rfl, by simp⟩
  · rw [if_neg h, if_neg h, if_pos (by omega)]
    exact ⟨_, _, rfl, rfl⟩
theorem units_mono {r s : Nat} (h : r < s) : units r < units s := by
  unfold units
  by_cases hs : s < 4503599627370496
  · rw [if_pos hs, if_pos (by omega)]; exact h
  · rw [if_neg hs]
    by_cases hr : r < 4503599627370496
    · rw [if_pos hr]
      have : 1 ≤ 2 ^ (s / 4503599627370496 - 1) := Nat.one_le_two_pow
      have h2 : (4503599627370496 + s % 4503599627370496) * 1 ≤ (4503599627370496 + s % 4503599627370496) * 2 ^ (s / 4503599627370496 - 1) := Nat.mul_le_mul_left _ this
      omega
    · rw [if_neg hr]
      by_cases he : r / 4503599627370496 = s / 4503599627370496
      · rw [he]
        exact Nat.mul_lt_mul_of_pos_right (by omega) (Nat.two_pow_pos _)
      · have hlt : r / 4503599627370496 - 1 + 1 ≤ s / 4503599627370496 - 1 := by omega
        have h1 : (4503599627370496 + r % 4503599627370496) * 2 ^ (r / 4503599627370496 - 1) < 9007199254740992 * 2 ^ (r / 4503599627370496 - 1) := Nat.mul_lt_mul_of_pos_right (by omega) (Nat.two_pow_pos _)
        have h2 : 9007199254740992 * 2 ^ (r / 4503599627370496 - 1) = 4503599627370496 * 2 ^ (r / 4503599627370496 - 1 + 1) := by rw [Nat.pow_succ]; omega
        have h3 : 4503599627370496 * 2 ^ (r / 4503599627370496 - 1 + 1) ≤ 4503599627370496 * 2 ^ (s / 4503599627370496 - 1) := Nat.mul_le_mul_left _ (Nat.pow_le_pow_right (by omega) hlt)
        have h4 : 4503599627370496 * 2 ^ (s / 4503599627370496 - 1) ≤ (4503599627370496 + s % 4503599627370496) * 2 ^ (s / 4503599627370496 - 1) := Nat.mul_le_mul_right _ (by omega)
        omega
theorem units_inj {r s : Nat} (h : units r = units s) : r = s := by
  rcases Nat.lt_trichotomy r s with h1 | h1 | h1
  · have := units_mono h1; omega
  · exact h1
  · have := units_mono h1; omega
theorem units_zero {r : Nat} (h : units r = 0) : r = 0 := units_inj (h.trans (by rfl))
theorem signed_scale (s : Bool) (m k j : Nat) : signed s m k * (2 : Int) ^ j = signed s (m * 2 ^ k) j := by
  unfold signed
  simp only [Nat.shiftLeft_eq]
  cases s
  · simp only [Bool.false_eq_true, if_false]
    push_cast
    rfl
  · simp only [if_true]
    push_cast
    rw [Int.neg_mul]
theorem cmp_scale (x y c : Int) (hc : 0 < c) : compare (x * c) (y * c) = compare x y := by
  have h1 : x * c < y * c ↔ x < y := Int.mul_lt_mul_right hc
  have h2 : x * c = y * c ↔ x = y := ⟨fun h => Int.eq_of_mul_eq_mul_right (by omega) h, fun h => by rw [h]⟩
  simp only [compare, compareOfLessAndEq, h1, h2]
def negB (a : Nat) : Bool := a / 9223372036854775808 % 2 == 1
def sv (a : Nat) : Int := if negB a = true then -(units (rung a) : Int) else (units (rung a) : Int)
theorem signed_zero (s : Bool) (m : Nat) : signed s m 0 = if s = true then -(m : Int) else (m : Int) := by
  unfold signed
  simp only [Nat.shiftLeft_zero]
theorem order_fin {a b : Nat} (ha : nanB a = false) (ha2 : infB a = false) (hb : nanB b = false) (hb2 : infB b = false) : double.order a b = some (compare (sv a) (sv b)) := by
  obtain ⟨m, k, hr, hm⟩ := read_fin ha ha2
  obtain ⟨n, l, hs, hn⟩ := read_fin hb hb2
  unfold Format.order
  rw [hr, hs]
  show some (compare (signed (negB a) m ((-1074 + (k : Int)) - min (-1074 + (k : Int)) (-1074 + (l : Int))).toNat) (signed (negB b) n ((-1074 + (l : Int)) - min (-1074 + (k : Int)) (-1074 + (l : Int))).toNat)) = _
  obtain ⟨c, hc⟩ : ∃ c, c = min k l := ⟨_, rfl⟩
  have e1 : ((-1074 + (k : Int)) - min (-1074 + (k : Int)) (-1074 + (l : Int))).toNat = k - c := by omega
  have e2 : ((-1074 + (l : Int)) - min (-1074 + (k : Int)) (-1074 + (l : Int))).toNat = l - c := by omega
  rw [e1, e2]
  have full : ∀ (s : Bool) (m k : Nat), c ≤ k → signed s m (k - c) * (2 : Int) ^ c = signed s (m * 2 ^ k) 0 := fun s m k h => by
    have h1 := signed_scale s m (k - c) c
    have h2 := signed_scale s m (k - c + c) 0
    have h3 : signed s (m * 2 ^ (k - c)) c = signed s (m * 2 ^ k) 0 := by
      unfold signed
      simp only [Nat.shiftLeft_eq, Nat.pow_zero, Nat.mul_one, Nat.mul_assoc, ← Nat.pow_add, Nat.sub_add_cancel h]
    rw [h1, h3]
  have hpos : (0 : Int) < 2 ^ c := Int.pow_pos (by omega)
  rw [← cmp_scale _ _ _ hpos, full _ m k (by omega), full _ n l (by omega), hm, hn, signed_zero, signed_zero]
  rfl
theorem order_nan {a b : Nat} (h : nanB a = true ∨ nanB b = true) : double.order a b = none := by
  unfold Format.order
  rcases h with h | h
  · rw [read_nan h]; rfl
  · rw [read_nan h]
    cases double.read a <;> rfl
def eqB (a b : Nat) : Bool := !nanB a && !nanB b && (decide (a = b) || (decide (rung a = 0) && decide (rung b = 0)))
theorem word_of {a b : Nat} (ha : a < 18446744073709551616) (hb : b < 18446744073709551616) (hr : rung a = rung b) (hn : negB a = negB b) : a = b := by
  unfold rung at hr
  unfold negB at hn
  have h1 : (a / 9223372036854775808 % 2 = 1) ↔ (b / 9223372036854775808 % 2 = 1) := by
    constructor
    · intro h
      have := beq_iff_eq.2 h
      rw [hn] at this
      exact beq_iff_eq.1 this
    · intro h
      have := beq_iff_eq.2 h
      rw [← hn] at this
      exact beq_iff_eq.1 this
  omega
theorem order_eq {a b : Nat} (ha : a < 18446744073709551616) (hb : b < 18446744073709551616) : (double.order a b == some .eq) = eqB a b := by
  unfold eqB
  cases h1 : nanB a with
  | true => rw [order_nan (.inl h1)]; rfl
  | false =>
    cases h2 : nanB b with
    | true => rw [order_nan (.inr h2)]; rfl
    | false =>
      simp only [Bool.not_false, Bool.true_and]
      cases h3 : infB a with
      | true =>
        have e3 := of_decide_eq_true h3
        cases h4 : infB b with
        | true =>
          have e4 := of_decide_eq_true h4
          unfold Format.order
          rw [read_inf h3, read_inf h4]
          show ((some (compare (negB b).toNat (negB a).toNat) : Option Ordering) == some .eq) = _
          have hz : decide (rung a = 0) = false := decide_eq_false (by omega)
          rw [hz, Bool.false_and, Bool.or_false]
          by_cases he : a = b
          · subst he
            rw [decide_eq_true rfl]
            cases negB a <;> rfl
          · rw [decide_eq_false he]
            have : negB a ≠ negB b := fun h => he (word_of ha hb (by omega) h)
            revert this
            cases negB a <;> cases negB b <;> simp <;> decide
        | false =>
          obtain ⟨n, l, hs, hn⟩ := read_fin h2 h4
          have e4 := of_decide_eq_false h4
          unfold Format.order
          rw [read_inf h3, hs]
          have hz : decide (rung a = 0) = false := decide_eq_false (by omega)
          have he : decide (a = b) = false := decide_eq_false (fun h => by subst h; rw [h3] at h4; cases h4)
          rw [hz, he]
          show ((some (if (negB a) = true then Ordering.lt else Ordering.gt) : Option Ordering) == some .eq) = false
          cases negB a <;> rfl
      | false =>
        have e3 := of_decide_eq_false h3
        cases h4 : infB b with
        | true =>
          have e4 := of_decide_eq_true h4
          obtain ⟨n, l, hs, hn⟩ := read_fin h1 h3
          unfold Format.order
          rw [read_inf h4, hs]
          have hz : decide (rung b = 0) = false := decide_eq_false (by omega)
          have he : decide (a = b) = false := decide_eq_false (fun h => by subst h; rw [h3] at h4; cases h4)
          rw [hz, he, Bool.and_false]
          show ((some (if (negB b) = true then Ordering.gt else Ordering.lt) : Option Ordering) == some .eq) = false
          cases negB b <;> rfl
        | false =>
          rw [order_fin h1 h3 h2 h4]
          have key : sv a = sv b ↔ a = b ∨ (rung a = 0 ∧ rung b = 0) := by
            unfold sv
            constructor
            · intro h
              by_cases hz : rung a = 0
              · have hu : units (rung a) = 0 := by rw [hz]; rfl
                have hub : units (rung b) = 0 := by
                  split at h <;> split at h <;> omega
                exact .inr ⟨hz, units_zero hub⟩
              · have hua : units (rung a) ≠ 0 := fun h => hz (units_zero h)
                left
                have hn : negB a = negB b := by
                  cases ea : negB a <;> cases eb : negB b <;> simp only [ea, eb, Bool.false_eq_true, if_false, if_true] at h <;> first | rfl | omega
                rw [hn] at h
                have hu : units (rung a) = units (rung b) := by split at h <;> omega
                exact word_of ha hb (units_inj hu) hn
            · rintro (h | ⟨h, h'⟩)
              · rw [h]
              · rw [h, h']
                have : units 0 = 0 := rfl
                rw [this]
                split <;> split <;> rfl
          have hc : ((some (compare (sv a) (sv b)) : Option Ordering) == some .eq) = decide (sv a = sv b) := by
            simp only [compare, compareOfLessAndEq]
            by_cases hlt : sv a < sv b
            · rw [if_pos hlt, decide_eq_false (by omega)]; rfl
            · rw [if_neg hlt]
              by_cases he : sv a = sv b
              · rw [if_pos he, decide_eq_true he]; rfl
              · rw [if_neg he, decide_eq_false he]; rfl
          rw [hc]
          by_cases h : sv a = sv b
          · rw [decide_eq_true h]
            rcases key.1 h with h5 | ⟨h5, h6⟩
            · rw [decide_eq_true h5]; rfl
            · rw [decide_eq_true h5, decide_eq_true h6]; simp
          · rw [decide_eq_false h]
            have h7 : ¬ (a = b ∨ (rung a = 0 ∧ rung b = 0)) := fun g => h (key.2 g)
            rw [decide_eq_false (fun g => h7 (.inl g))]
            by_cases h5 : rung a = 0
            · rw [decide_eq_false (fun g => h7 (.inr ⟨h5, g⟩))]; simp
            · rw [decide_eq_false h5]; rfl
theorem order_self {a : Nat} (ha : a < 18446744073709551616) : (double.order a a != some .eq) = nanB a := by
  have := order_eq ha ha
  rw [bne, this]
  unfold eqB
  rw [decide_eq_true rfl]
  cases nanB a <;> rfl
theorem sub_self {a : Nat} (h1 : nanB a = false) (h2 : infB a = false) : double.sub a a = some 0 := by
  obtain ⟨m, k, hr, hm⟩ := read_fin h1 h2
  unfold Format.sub
  rw [hr]
  show some (double.write _) = some 0
  have hb : ((-1074 + (k : Int)) - min (-1074 + (k : Int)) (-1074 + (k : Int))).toNat = 0 := by omega
  congr 1
  show double.write (.number (if signed (negB a) m ((-1074 + (k : Int)) - min (-1074 + (k : Int)) (-1074 + (k : Int))).toNat + signed (!negB a) m ((-1074 + (k : Int)) - min (-1074 + (k : Int)) (-1074 + (k : Int))).toNat = 0 then (negB a && !negB a) else decide (signed (negB a) m ((-1074 + (k : Int)) - min (-1074 + (k : Int)) (-1074 + (k : Int))).toNat + signed (!negB a) m ((-1074 + (k : Int)) - min (-1074 + (k : Int)) (-1074 + (k : Int))).toNat < 0)) (signed (negB a) m ((-1074 + (k : Int)) - min (-1074 + (k : Int)) (-1074 + (k : Int))).toNat + signed (!negB a) m ((-1074 + (k : Int)) - min (-1074 + (k : Int)) (-1074 + (k : Int))).toNat).natAbs (min (-1074 + (k : Int)) (-1074 + (k : Int)))) = 0
  rw [hb]
  have hz : signed (negB a) m 0 + signed (!negB a) m 0 = 0 := by
    rw [signed_zero, signed_zero]
    cases negB a <;> simp <;> omega
  rw [hz, if_pos rfl]
  have : (negB a && !negB a) = false := by cases negB a <;> rfl
  rw [this]
  unfold Format.write Format.nearest
  simp [Format.word]
end Go.Proofs.YtlhnkfheojlghaaDoor.Flo
end
section
namespace Go.Proofs.YtlhnkfheojlghaaDoor.Pr
open Go.RowKit Go.Proofs.YtlhnkfheojlghaaDoorW.PrintWords Go.Proofs.YtlhnkfheojlghaaDoor.Flo
def kindV (a : Nat) : Int := if nanB a = true then 4 else if rung a = 0 then 0 else if infB a = true then 3 else if rung a < 4503599627370496 then 1 else 2
def flo_canon.f (a : Int) : Option Int := if 0 ≤ a ∧ a < 18446744073709551616 then some (if nanB a.toNat = true then 9221120237041090560 else a) else none
theorem ext_bits (n : Int) (w : World) : (callFunc 96 #[.int .u64 n]).run Tryd.prog w = .ok (.value (.float .f64 n.toNat)) w := by
  rw [run_callFunc_extern Tryd.func96 (by kernel_rfl) (by kernel_rfl) (by kernel_rfl) (e := Extern.MathFloatBits.float64frombits) (by kernel_rfl)]
  rfl
theorem flo_canon.calls (a r : Int) (w : World) (h : flo_canon.f a = some r) : Calls Tryd.prog 90 #[.int .u64 a] w fun e w' => e = .returned (.int .u64 r) ∧ Drawn0 w w' := by
  unfold flo_canon.f at h
  by_cases hb : 0 ≤ a ∧ a < 18446744073709551616
  · rw [if_pos hb] at h
    obtain rfl := Option.some.inj h
    have ho : (FloatKind.f64.format.order a.toNat a.toNat != some Ordering.eq) = nanB a.toNat := order_self (a := a.toNat) (by omega)
    have hx := ext_bits
    clear h hb
    cases hn : nanB a.toNat with
    | true =>
      rw [if_pos rfl]
      rw [hn] at ho
      clear hn
      go_enter Tryd.func90, Tryd.ntmps90
      go_wp2
      go_ret
      exact ⟨rfl, Drawn0.refl _⟩
    | false =>
      rw [if_neg (by decide)]
      rw [hn] at ho
      clear hn
      go_enter Tryd.func90, Tryd.ntmps90
      go_wp2
      go_ret
      exact ⟨rfl, Drawn0.refl _⟩
  · rw [if_neg hb] at h
    cases h
end Go.Proofs.YtlhnkfheojlghaaDoor.Pr
end
section
namespace Go.Proofs.YtlhnkfheojlghaaDoor.Pr
open Go.RowKit Go.Proofs.YtlhnkfheojlghaaDoorW.PrintWords Go.Proofs.YtlhnkfheojlghaaDoorW.PrintLast Go.Proofs.YtlhnkfheojlghaaDoorW.PrintMore
attribute [local go_sem] max2_int min2_int max_two min_two max_three min_three max_four min_four
def flo_Canon.f (a0 : Int) : Option (Int) := (flo_canon.f a0).bind fun t101 => (some t101)
set_option maxHeartbeats 8000000 in
set_option maxRecDepth 100000 in
theorem flo_Canon.calls (a0 : Int) (r : Int) (w : World) (h : flo_Canon.f a0 = some r) :
    Calls Tryd.prog 82 #[.int .u64 a0] w fun e w' => e = .returned (.int .u64 r) ∧ Drawn0 w w' := by
  have H : ((flo_canon.f a0).bind fun t101 => (some t101)) = some r := h
  clear h
  replace H := Option.bind_eq_some_iff.mp H
  obtain ⟨t101, A20, H⟩ := H
  replace H : (some t101) = some r := H
  have A2 := Aside0.mk A20
  clear A20
  obtain rfl := Option.some.inj H
  go_enter Tryd.func82, Tryd.ntmps82
  go_wp2_with (first | ((with_reducible refine gate_callee (f := 90) rfl ?_); refine goesL_ (some 4) rfl rfl Tryd.func90 (by kernel_rfl) rfl #[.int .u64 a0] rfl (by (try simp only [List.map_toArray, List.map_cons, List.map_nil]); first | done | rfl | (simp only [List.length_drop, List.length_take]; rfl)) ?_; (with_reducible refine (flo_canon.calls a0 t101 _ A2.out).mono ?_); rintro e w' ⟨rfl, ⟨nd, rfl⟩⟩; refine ⟨_, rfl, ?_⟩))
  go_ret
  exact ⟨by first | rfl | (simp; done) | (simp [*]; done), by repeat (first | exact Drawn0.refl _ | apply Drawn0.step)⟩
def value_normal.j0 : Nat → Int → Bool → Int → Int → ByteArray → Int → Option (Int × Int × ByteArray × Int)
  | 0, _, _, _, _, _, _ => none
  | k + 1, x4, x5, x103000, x103001, x103002, x103003 => if x5 = true then (some (x103000, 0, (⟨#[]⟩ : ByteArray), 0)) else (if x4 = 3 then ((flo_Canon.f x103001).bind fun t104 => (some (x103000, t104, (⟨#[]⟩ : ByteArray), 0))) else (if x4 = 4 then (some (x103000, 0, x103002, 0)) else (if x4 = 5 then (some (x103000, 0, (⟨#[]⟩ : ByteArray), x103003)) else (if x4 = 6 then (some (x103000, 0, (⟨#[]⟩ : ByteArray), x103003)) else (if x4 = 7 then (some (x103000, 0, (⟨#[]⟩ : ByteArray), x103003)) else (if x4 = 8 then (some (x103000, 0, (⟨#[]⟩ : ByteArray), x103003)) else (some (0, 0, (⟨#[]⟩ : ByteArray), 0))))))))
def value_normal.f (k : Nat) (a0_0 : Int) (a0_1 : Int) (a0_2 : ByteArray) (a0_3 : Int) : Option (Int × Int × ByteArray × Int) := if a0_0 = 1 then (value_normal.j0 k a0_0 (a0_0 == 1) a0_0 a0_1 a0_2 a0_3) else (value_normal.j0 k a0_0 (a0_0 == 2) a0_0 a0_1 a0_2 a0_3)
set_option maxHeartbeats 8000000 in
set_option maxRecDepth 100000 in
theorem value_normal.calls (k : Nat) (a0_0 : Int) (a0_1 : Int) (a0_2 : ByteArray) (a0_3 : Int) (r1 : Int) (r2 : Int) (r3 : ByteArray) (r4 : Int) (w : World) (h : value_normal.f k a0_0 a0_1 a0_2 a0_3 = some (r1, r2, r3, r4)) :
    Calls Tryd.prog 76 #[.agg #[.int .i64 a0_0, .int .u64 a0_1, .string a0_2, .int .i64 a0_3]] w fun e w' => e = .returned (.agg #[.int .i64 r1, .int .u64 r2, .string r3, .int .i64 r4]) ∧ Below w.heap.size w w' := by
  have hu98 := Tryd.underlying98
  have HB := Aside0.mk (Below.refl w.heap.size w)
  have H : (if a0_0 = 1 then (value_normal.j0 k a0_0 (a0_0 == 1) a0_0 a0_1 a0_2 a0_3) else (value_normal.j0 k a0_0 (a0_0 == 2) a0_0 a0_1 a0_2 a0_3)) = some (r1, r2, r3, r4) := h
  clear h
  have HC2 := Aside0.mk H
  clear H
  go_enter Tryd.func76, Tryd.ntmps76
  go_upto_if 5 with (first | ((with_reducible refine gate_dst (N := 1) rfl ?_); refine box_event ?hg (N := 1) ?hd (cs := #[.int .i64 a0_0, .int .u64 a0_1, .string a0_2, .int .i64 a0_3]) (t := 98) ?hr ?_; (case hd => rfl); (case hg => rfl); (case hr => first | (go_simp; done) | (go_simp; rfl)); intro gb102 hg w3 hbox hb; have n0_ := Aside0.mk (below_step (by repeat (first | (with_reducible first | exact HB.out | apply below_alloc | apply pw_below_drewN | apply below_drew1) | exact HB.out)) hb); have n1_ := Aside0.mk (hbox); have n2_ := Aside0.mk ((by rw [hg]; exact (below_size (by repeat (first | (with_reducible first | exact HB.out | apply below_alloc | apply pw_below_drewN | apply below_drew1) | exact HB.out))) : w.heap.size ≤ gb102)); have n3_ := Aside0.mk ((by rw [hg]; exact (below_size (by repeat (first | (with_reducible first | exact HB.out | apply below_alloc | apply pw_below_drewN | apply below_drew1) | exact HB.out))) : w.heap.size ≤ gb102)); clear HB; have HB := n0_; have BK102 := n1_; have GW102 := n2_; have GE102 := n3_; clear n0_ n1_ n2_ n3_; clear hb hbox hg) | ((with_reducible refine gate_dst (N := 2) rfl ?_); refine box_event ?hg (N := 2) ?hd (cs := #[.int .i64 0, .int .u64 0, .string (⟨#[]⟩ : ByteArray), .int .i64 0]) (t := 98) ?hr ?_; (case hd => rfl); (case hg => rfl); (case hr => first | (go_simp; done) | (go_simp; rfl)); intro gb103 hg w4 hbox hb; have n0_ := Aside0.mk (blk_below (g := gb102) (o := .cells #[.int .i64 a0_0, .int .u64 a0_1, .string a0_2, .int .i64 a0_3] 98 (0, 0)) (by (with_reducible repeat (first | refine blk_drewN ?_ _ | refine blk_drew ?_ | refine blk_alloc ?_ _)); exact BK102.out) hb); have n1_ := Aside0.mk (below_step (by repeat (first | (with_reducible first | exact HB.out | apply below_alloc | apply pw_below_drewN | apply below_drew1 | refine below_set ?_ GE102.out) | exact HB.out)) hb); have n2_ := Aside0.mk (hbox); have n3_ := Aside0.mk ((by rw [hg]; exact (below_size (by repeat (first | (with_reducible first | exact HB.out | apply below_alloc | apply pw_below_drewN | apply below_drew1 | refine below_set ?_ GE102.out) | exact HB.out))) : w.heap.size ≤ gb103)); have n4_ := Aside0.mk ((by rw [hg]; exact (below_size (by repeat (first | (with_reducible first | exact HB.out | apply below_alloc | apply pw_below_drewN | apply below_drew1 | refine below_set ?_ GE102.out) | exact HB.out))) : w.heap.size ≤ gb103)); have n5_ := Aside0.mk ((by rw [hg]; exact Nat.ne_of_lt (blk_lt (g := gb102) (o := .cells #[.int .i64 a0_0, .int .u64 a0_1, .string a0_2, .int .i64 a0_3] 98 (0, 0)) (by (with_reducible repeat (first | refine blk_drewN ?_ _ | refine blk_drew ?_ | refine blk_alloc ?_ _)); exact BK102.out)) : gb102 ≠ gb103)); have n6_ := Aside0.mk ((by rw [hg]; exact Nat.ne_of_gt (blk_lt (g := gb102) (o := .cells #[.int .i64 a0_0, .int .u64 a0_1, .string a0_2, .int .i64 a0_3] 98 (0, 0)) (by (with_reducible repeat (first | refine blk_drewN ?_ _ | refine blk_drew ?_ | refine blk_alloc ?_ _)); exact BK102.out)) : gb103 ≠ gb102)); clear BK102; clear HB; have BK102 := n0_; have HB := n1_; have BK103 := n2_; have GW103 := n3_; have GE103 := n4_; have NB102_103 := n5_; have NB103_102 := n6_; clear n0_ n1_ n2_ n3_ n4_ n5_ n6_; clear hb hbox hg; have hnb5 := NB102_103.out; have hnc5 := NB103_102.out; have hcz6_0 : w4.cell? ⟨gb102, 0, none⟩ = some (.int .i64 a0_0) := (blk_cell BK102.out 0).trans rfl; have hcz6_1 : w4.cell? ⟨gb102, 1, none⟩ = some (.int .u64 a0_1) := (blk_cell BK102.out 1).trans rfl; have hcz6_2 : w4.cell? ⟨gb102, 2, none⟩ = some (.string a0_2) := (blk_cell BK102.out 2).trans rfl; have hcz6_3 : w4.cell? ⟨gb102, 3, none⟩ = some (.int .i64 a0_3) := (blk_cell BK102.out 3).trans rfl; have hfz6_0 := blk_frozen BK102.out 0; have hfz6_1 := blk_frozen BK102.out 1; have hfz6_2 := blk_frozen BK102.out 2; have hfz6_3 := blk_frozen BK102.out 3))
  (try simp only [Act.put, List.setIfInBounds_toArray, List.set_cons_zero, List.set_cons_succ])
  go_cut [5] (fun v5 wc => ∃ (kq : Nat) (x5_1 : Bool), v5 = .bool x5_1 ∧ Aside0 (value_normal.j0 kq a0_0 x5_1 a0_0 a0_1 a0_2 a0_3 = some (r1, r2, r3, r4)) ∧ Aside0 (kq ≤ k) ∧ Aside0 (wc.heap[gb102]? = some (.cells #[.int .i64 a0_0, .int .u64 a0_1, .string a0_2, .int .i64 a0_3] 98 (0, 0))) ∧ Aside0 (wc.heap[gb103]? = some (.cells #[.int .i64 0, .int .u64 0, .string (⟨#[]⟩ : ByteArray), .int .i64 0] 98 (0, 0))) ∧ Aside0 (Below w.heap.size w wc))
  case first =>
    have H := HC2.out
    clear HC2
    by_cases c7 : a0_0 = 1
    · rw [if_pos c7] at H
      have c7b0 : (a0_0 == 1) = true := beq_iff_eq.mpr c7
      have c7b1 : (a0_0 != 1) = false := bne_eq_false_iff_eq.mpr c7
      clear c7
      (first | rw [c7b0] | (simp only [i64_w, i32_w]; rw [c7b0]) | rw [c7b1] | (simp only [i64_w, i32_w]; rw [c7b1]) | skip)
      have H' := Aside0.mk H
      clear H
      go_wp2
      go_meet
      case rel => exact ⟨_, ((a0_0 == 1)), (by first | rfl | (simp; done) | (simp [*]; done)), H', ⟨by first | omega | exact Nat.le_refl _⟩, ⟨by (with_reducible repeat (first | refine blk_drewN ?_ _ | refine blk_drew ?_ | refine blk_alloc ?_ _)); exact BK102.out⟩, ⟨by (with_reducible repeat (first | refine blk_drewN ?_ _ | refine blk_drew ?_ | refine blk_alloc ?_ _)); exact BK103.out⟩, ⟨by repeat (first | (with_reducible first | exact HB.out | apply below_alloc | apply pw_below_drewN | apply below_drew1 | refine below_set ?_ GE102.out | refine below_set ?_ GE103.out) | exact HB.out)⟩⟩
    · rw [if_neg c7] at H
      have c7b0 : (a0_0 == 1) = false := beq_eq_false_iff_ne.mpr c7
      have c7b1 : (a0_0 != 1) = true := bne_iff_ne.mpr c7
      (first | rw [c7b0] | (simp only [i64_w, i32_w]; rw [c7b0]) | rw [c7b1] | (simp only [i64_w, i32_w]; rw [c7b1]) | skip)
      have H' := Aside0.mk H
      clear H
      go_wp2
      go_meet
      case rel => exact ⟨_, ((a0_0 == 2)), (by first | rfl | (simp; done) | (simp [*]; done)), H', ⟨by first | omega | exact Nat.le_refl _⟩, ⟨by (with_reducible repeat (first | refine blk_drewN ?_ _ | refine blk_drew ?_ | refine blk_alloc ?_ _)); exact BK102.out⟩, ⟨by (with_reducible repeat (first | refine blk_drewN ?_ _ | refine blk_drew ?_ | refine blk_alloc ?_ _)); exact BK103.out⟩, ⟨by repeat (first | (with_reducible first | exact HB.out | apply below_alloc | apply pw_below_drewN | apply below_drew1 | refine below_set ?_ GE102.out | refine below_set ?_ GE103.out) | exact HB.out)⟩⟩
  case rest =>
    clear HC2
    try clear p2
    try clear c5
    try clear c7
    try clear c7b0
    try clear c7b1
    try clear hcz6_0
    try clear hcz6_1
    try clear hcz6_2
    try clear hcz6_3
    try clear hfz6_0
    try clear hfz6_1
    try clear hfz6_2
    try clear hfz6_3
    obtain ⟨kq, x5_1, rfl, HA, HJ1, BK102, BK103, HB⟩ := hcut
    cases kq with
    | zero => exact absurd HA.out (by simp [value_normal.j0])
    | succ kj1 =>
      have H := HA.out
      clear HA
      simp only [value_normal.j0] at H
      by_cases c8 : x5_1 = true
      · subst c8
        have H1 : (some (a0_0, 0, (⟨#[]⟩ : ByteArray), 0)) = some (r1, r2, r3, r4) := by rw [if_pos rfl] at H; exact H
        clear H
        have H := H1
        clear H1
        simp only [Option.some.injEq, Prod.mk.injEq] at H
        obtain ⟨rfl, rfl, rfl, rfl⟩ := H
        have hnb9 := NB102_103.out
        have hnc9 := NB103_102.out
        have hcz10_0 : wc.cell? ⟨gb102, 0, none⟩ = some (.int .i64 a0_0) := (blk_cell BK102.out 0).trans rfl
        have hcz10_1 : wc.cell? ⟨gb102, 1, none⟩ = some (.int .u64 a0_1) := (blk_cell BK102.out 1).trans rfl
        have hcz10_2 : wc.cell? ⟨gb102, 2, none⟩ = some (.string a0_2) := (blk_cell BK102.out 2).trans rfl
        have hcz10_3 : wc.cell? ⟨gb102, 3, none⟩ = some (.int .i64 a0_3) := (blk_cell BK102.out 3).trans rfl
        have hfz10_0 := blk_frozen BK102.out 0
        have hfz10_1 := blk_frozen BK102.out 1
        have hfz10_2 := blk_frozen BK102.out 2
        have hfz10_3 := blk_frozen BK102.out 3
        have hcz11_0 : wc.cell? ⟨gb103, 0, none⟩ = some (.int .i64 0) := (blk_cell BK103.out 0).trans rfl
        have hcz11_1 : wc.cell? ⟨gb103, 1, none⟩ = some (.int .u64 0) := (blk_cell BK103.out 1).trans rfl
        have hcz11_2 : wc.cell? ⟨gb103, 2, none⟩ = some (.string (⟨#[]⟩ : ByteArray)) := (blk_cell BK103.out 2).trans rfl
        have hcz11_3 : wc.cell? ⟨gb103, 3, none⟩ = some (.int .i64 0) := (blk_cell BK103.out 3).trans rfl
        have hfz11_0 := blk_frozen BK103.out 0
        have hfz11_1 := blk_frozen BK103.out 1
        have hfz11_2 := blk_frozen BK103.out 2
        have hfz11_3 := blk_frozen BK103.out 3
        go_wp2
        refine bodyPost_ret (results_cell_row rfl _ _ gb103 98 #[.int .i64 a0_0, .int .u64 0, .string (⟨#[]⟩ : ByteArray), .int .i64 0] (0, 0) _ rfl (by (with_reducible repeat (first | refine blk_drewN ?_ _ | refine blk_drew ?_ | refine blk_alloc ?_ _)); refine blk_put (cs := #[.int .i64 a0_0, .int .u64 0, .string (⟨#[]⟩ : ByteArray), .int .i64 0]) ?_ 3 _ rfl; (with_reducible repeat (first | refine blk_drewN ?_ _ | refine blk_drew ?_ | refine blk_alloc ?_ _)); refine blk_put (cs := #[.int .i64 a0_0, .int .u64 0, .string (⟨#[]⟩ : ByteArray), .int .i64 0]) ?_ 2 _ rfl; (with_reducible repeat (first | refine blk_drewN ?_ _ | refine blk_drew ?_ | refine blk_alloc ?_ _)); refine blk_put (cs := #[.int .i64 a0_0, .int .u64 0, .string (⟨#[]⟩ : ByteArray), .int .i64 0]) ?_ 1 _ rfl; (with_reducible repeat (first | refine blk_drewN ?_ _ | refine blk_drew ?_ | refine blk_alloc ?_ _)); refine blk_put (cs := #[.int .i64 0, .int .u64 0, .string (⟨#[]⟩ : ByteArray), .int .i64 0]) ?_ 0 _ rfl; (with_reducible repeat (first | refine blk_drewN ?_ _ | refine blk_drew ?_ | refine blk_alloc ?_ _)); exact BK103.out) Tryd.underlying98 rfl (by kernel_rfl)) rfl ?_
        exact ⟨by first | rfl | (simp [errW_none, errW_some] <;> rfl) | (simp [*, errW_none, errW_some] <;> rfl), by repeat (first | (with_reducible first | exact HB.out | apply below_alloc | apply pw_below_drewN | apply below_drew1 | refine below_set ?_ GE102.out | refine below_set ?_ GE103.out) | exact HB.out)⟩
      · replace c8 := Bool.eq_false_iff.mpr c8
        subst c8
        have H1 : (if a0_0 = 3 then ((flo_Canon.f a0_1).bind fun t104 => (some (a0_0, t104, (⟨#[]⟩ : ByteArray), 0))) else (if a0_0 = 4 then (some (a0_0, 0, a0_2, 0)) else (if a0_0 = 5 then (some (a0_0, 0, (⟨#[]⟩ : ByteArray), a0_3)) else (if a0_0 = 6 then (some (a0_0, 0, (⟨#[]⟩ : ByteArray), a0_3)) else (if a0_0 = 7 then (some (a0_0, 0, (⟨#[]⟩ : ByteArray), a0_3)) else (if a0_0 = 8 then (some (a0_0, 0, (⟨#[]⟩ : ByteArray), a0_3)) else (some (0, 0, (⟨#[]⟩ : ByteArray), 0)))))))) = some (r1, r2, r3, r4) := by rw [if_neg (show ¬ (false = true) by decide)] at H; exact H
        clear H
        have H := H1
        clear H1
        by_cases c12 : a0_0 = 3
        · rw [if_pos c12] at H
          have c12b0 : (a0_0 == 3) = true := beq_iff_eq.mpr c12
          have c12b1 : (a0_0 != 3) = false := bne_eq_false_iff_eq.mpr c12
          clear c12
          replace H := Option.bind_eq_some_iff.mp H
          obtain ⟨t104, A130, H⟩ := H
          replace H : (some (a0_0, t104, (⟨#[]⟩ : ByteArray), 0)) = some (r1, r2, r3, r4) := H
          have A13 := Aside0.mk A130
          clear A130
          simp only [Option.some.injEq, Prod.mk.injEq] at H
          obtain ⟨rfl, rfl, rfl, rfl⟩ := H
          try go_wp2
          have n0_ := Aside0.mk (blk_drew BK102.out)
          have n1_ := Aside0.mk (blk_drew BK103.out)
          have n2_ := Aside0.mk (below_drew1 HB.out)
          clear BK102
          clear BK103
          clear HB
          have BK102 := n0_
          have BK103 := n1_
          have HB := n2_
          clear n0_ n1_ n2_
          refine start_ (n := 7) (S := fun w' => w'.cell? ⟨gb102, 0, none⟩ = some (.int .i64 a0_0) ∧ w'.cell? ⟨gb102, 1, none⟩ = some (.int .u64 a0_1) ∧ w'.cell? ⟨gb102, 2, none⟩ = some (.string a0_2) ∧ w'.cell? ⟨gb102, 3, none⟩ = some (.int .i64 a0_3)) (ds := []) #[false, false, false, false, false, false, false] (by kernel_rfl) rfl rfl ⟨(blk_cell BK102.out 0).trans rfl, (blk_cell BK102.out 1).trans rfl, (blk_cell BK102.out 2).trans rfl, (blk_cell BK102.out 3).trans rfl⟩ (fun hHeld => ?_)
          generalize wc.drew = w14 at BK102 BK103 HB hHeld ⊢
          refine pure_ (i := 0) (N := some 13) (v := ?_) (a' := ?_) #[true, false, false, false, false, false, false] rfl rfl (by kernel_rfl) (fun _ _ _ h => h) (Or.inl ⟨by rfl, ?_⟩) ?_ ?_
          rotate_left
          · intro w'
            go_simp
            with_reducible rfl
          rotate_left
          · simp only [Act.put, List.setIfInBounds_toArray, List.set_cons_zero, List.set_cons_succ, i64_w, i32_w]
            rfl
          refine pure_ (i := 2) (N := some 15) (v := ?_) (a' := ?_) #[true, false, true, false, false, false, false] rfl rfl (by kernel_rfl) (fun _ _ _ h => h) (Or.inl ⟨by rfl, ?_⟩) ?_ ?_
          rotate_left
          · intro w'
            go_simp
            with_reducible rfl
          rotate_left
          · simp only [Act.put, List.setIfInBounds_toArray, List.set_cons_zero, List.set_cons_succ, i64_w, i32_w]
            rfl
          refine take_ (i := 1) (N := some 14) (v := ?_) (a' := ?_) #[true, true, true, false, false, false, false] rfl rfl (by kernel_rfl) (fun _ _ _ h => h) (Or.inl ⟨by rfl, ?_⟩) hHeld ?_ ?_
          rotate_left
          · rintro w' ⟨s0, s1, s2, s3⟩
            go_simp
            with_reducible rfl
          rotate_left
          · simp only [Act.put, List.setIfInBounds_toArray, List.set_cons_zero, List.set_cons_succ, i64_w, i32_w]
            rfl
          refine take_ (i := 3) (N := some 16) (v := ?_) (a' := ?_) #[true, true, true, true, false, false, false] rfl rfl (by kernel_rfl) (fun _ _ _ h => h) (Or.inl ⟨by rfl, ?_⟩) hHeld ?_ ?_
          rotate_left
          · rintro w' ⟨s0, s1, s2, s3⟩
            go_simp
            with_reducible rfl
          rotate_left
          · simp only [Act.put, List.setIfInBounds_toArray, List.set_cons_zero, List.set_cons_succ, i64_w, i32_w]
            rfl
          refine one_ (i := 4) (N := some 17) #[true, true, true, true, true, false, false] rfl rfl (by kernel_rfl) (by decide) (fun K hK => ?_)
          refine goes_ Tryd.func82 (by kernel_rfl) rfl #[.int .u64 a0_1] (by rfl) rfl rfl (by (try simp only [List.map_toArray, List.map_cons, List.map_nil]); first | done | rfl | (simp only [List.length_drop, List.length_take]; rfl)) ?_
          with_reducible refine (flo_Canon.calls a0_1 t104 _ A13.out).mono ?_
          rintro e w' ⟨rfl, ⟨nd, rfl⟩⟩
          refine ⟨_, rfl, ?_⟩
          refine hK.out _ _ ⟨(blk_cell BK102.out 0).trans rfl, (blk_cell BK102.out 1).trans rfl, (blk_cell BK102.out 2).trans rfl, (blk_cell BK102.out 3).trans rfl⟩ (fun hHeld => ?_)
          clear hK K
          refine norm_ (a' := ?_) ?_ ?_
          rotate_left
          · show Act.put _ (some 17) _ = _
            simp only [Act.put, List.setIfInBounds_toArray, List.set_cons_zero, List.set_cons_succ, i64_w, i32_w]
            rfl
          refine pure_ (i := 5) (N := some 18) (v := ?_) (a' := ?_) #[true, true, true, true, true, true, false] rfl rfl (by kernel_rfl) (fun _ _ _ h => h) (Or.inl ⟨by rfl, ?_⟩) ?_ ?_
          rotate_left
          · intro w'
            go_simp
            with_reducible rfl
          rotate_left
          · simp only [Act.put, List.setIfInBounds_toArray, List.set_cons_zero, List.set_cons_succ, i64_w, i32_w]
            rfl
          refine one_ (i := 6) (N := none) #[true, true, true, true, true, true, true] rfl rfl (by kernel_rfl) (by decide) (fun K hK => ?_)
          have hs15 : w14.cell? ⟨gb103, 0, none⟩ = some (.int .i64 0) := (blk_cell BK103.out 0).trans rfl
          have hfs15 := blk_frozen BK103.out 0
          have hns15_0 := NB102_103.out
          have hms15_0 := NB103_102.out
          have hs16 : w14.cell? ⟨gb103, 1, none⟩ = some (.int .u64 0) := (blk_cell BK103.out 1).trans rfl
          have hfs16 := blk_frozen BK103.out 1
          have hns16_0 := NB102_103.out
          have hms16_0 := NB103_102.out
          have hs17 : w14.cell? ⟨gb103, 2, none⟩ = some (.string (⟨#[]⟩ : ByteArray)) := (blk_cell BK103.out 2).trans rfl
          have hfs17 := blk_frozen BK103.out 2
          have hns17_0 := NB102_103.out
          have hms17_0 := NB103_102.out
          have hs18 : w14.cell? ⟨gb103, 3, none⟩ = some (.int .i64 0) := (blk_cell BK103.out 3).trans rfl
          have hfs18 := blk_frozen BK103.out 3
          have hns18_0 := NB102_103.out
          have hms18_0 := NB103_102.out
          refine skip_ (w1 := ?_) (by rfl) rfl ?_ ?_
          rotate_left
          · go_simp
            rfl
          refine hK.out _ _ ⟨((cell_far (p := ⟨gb103, _, none⟩) NB102_103.out _).trans (((cell_far (p := ⟨gb103, _, none⟩) NB102_103.out _).trans (((cell_far (p := ⟨gb103, _, none⟩) NB102_103.out _).trans (((cell_far (p := ⟨gb103, _, none⟩) NB102_103.out _).trans (hHeld.1)))))))), ((cell_far (p := ⟨gb103, _, none⟩) NB102_103.out _).trans (((cell_far (p := ⟨gb103, _, none⟩) NB102_103.out _).trans (((cell_far (p := ⟨gb103, _, none⟩) NB102_103.out _).trans (((cell_far (p := ⟨gb103, _, none⟩) NB102_103.out _).trans (hHeld.2.1)))))))), ((cell_far (p := ⟨gb103, _, none⟩) NB102_103.out _).trans (((cell_far (p := ⟨gb103, _, none⟩) NB102_103.out _).trans (((cell_far (p := ⟨gb103, _, none⟩) NB102_103.out _).trans (((cell_far (p := ⟨gb103, _, none⟩) NB102_103.out _).trans (hHeld.2.2.1)))))))), ((cell_far (p := ⟨gb103, _, none⟩) NB102_103.out _).trans (((cell_far (p := ⟨gb103, _, none⟩) NB102_103.out _).trans (((cell_far (p := ⟨gb103, _, none⟩) NB102_103.out _).trans (((cell_far (p := ⟨gb103, _, none⟩) NB102_103.out _).trans (hHeld.2.2.2))))))))⟩ (fun hHeld => ?_)
          clear hK K
          refine done_ (by kernel_rfl) ?_
          try go_wp2
          refine bodyPost_ret (results_cell_row rfl _ _ gb103 98 #[.int .i64 a0_0, .int .u64 t104, .string (⟨#[]⟩ : ByteArray), .int .i64 0] (0, 0) _ rfl (by (with_reducible repeat (first | refine blk_drewN ?_ _ | refine blk_drew ?_ | refine blk_alloc ?_ _)); refine blk_put (cs := #[.int .i64 a0_0, .int .u64 t104, .string (⟨#[]⟩ : ByteArray), .int .i64 0]) ?_ 3 _ rfl; (with_reducible repeat (first | refine blk_drewN ?_ _ | refine blk_drew ?_ | refine blk_alloc ?_ _)); refine blk_put (cs := #[.int .i64 a0_0, .int .u64 t104, .string (⟨#[]⟩ : ByteArray), .int .i64 0]) ?_ 2 _ rfl; (with_reducible repeat (first | refine blk_drewN ?_ _ | refine blk_drew ?_ | refine blk_alloc ?_ _)); refine blk_put (cs := #[.int .i64 a0_0, .int .u64 0, .string (⟨#[]⟩ : ByteArray), .int .i64 0]) ?_ 1 _ rfl; (with_reducible repeat (first | refine blk_drewN ?_ _ | refine blk_drew ?_ | refine blk_alloc ?_ _)); refine blk_put (cs := #[.int .i64 0, .int .u64 0, .string (⟨#[]⟩ : ByteArray), .int .i64 0]) ?_ 0 _ rfl; (with_reducible repeat (first | refine blk_drewN ?_ _ | refine blk_drew ?_ | refine blk_alloc ?_ _)); exact BK103.out) Tryd.underlying98 rfl (by kernel_rfl)) rfl ?_
          exact ⟨by first | rfl | (simp [errW_none, errW_some] <;> rfl) | (simp [*, errW_none, errW_some] <;> rfl), by repeat (first | (with_reducible first | exact HB.out | apply below_alloc | apply pw_below_drewN | apply below_drew1 | refine below_set ?_ GE102.out | refine below_set ?_ GE103.out) | exact HB.out)⟩
        · rw [if_neg c12] at H
          have c12b0 : (a0_0 == 3) = false := beq_eq_false_iff_ne.mpr c12
          have c12b1 : (a0_0 != 3) = true := bne_iff_ne.mpr c12
          by_cases c19 : a0_0 = 4
          · rw [if_pos c19] at H
            have c19b0 : (a0_0 == 4) = true := beq_iff_eq.mpr c19
            have c19b1 : (a0_0 != 4) = false := bne_eq_false_iff_eq.mpr c19
            clear c19
            simp only [Option.some.injEq, Prod.mk.injEq] at H
            obtain ⟨rfl, rfl, rfl, rfl⟩ := H
            have hnb20 := NB102_103.out
            have hnc20 := NB103_102.out
            have hcz21_0 : wc.cell? ⟨gb102, 0, none⟩ = some (.int .i64 a0_0) := (blk_cell BK102.out 0).trans rfl
            have hcz21_1 : wc.cell? ⟨gb102, 1, none⟩ = some (.int .u64 a0_1) := (blk_cell BK102.out 1).trans rfl
            have hcz21_2 : wc.cell? ⟨gb102, 2, none⟩ = some (.string a0_2) := (blk_cell BK102.out 2).trans rfl
            have hcz21_3 : wc.cell? ⟨gb102, 3, none⟩ = some (.int .i64 a0_3) := (blk_cell BK102.out 3).trans rfl
            have hfz21_0 := blk_frozen BK102.out 0
            have hfz21_1 := blk_frozen BK102.out 1
            have hfz21_2 := blk_frozen BK102.out 2
            have hfz21_3 := blk_frozen BK102.out 3
            have hcz22_0 : wc.cell? ⟨gb103, 0, none⟩ = some (.int .i64 0) := (blk_cell BK103.out 0).trans rfl
            have hcz22_1 : wc.cell? ⟨gb103, 1, none⟩ = some (.int .u64 0) := (blk_cell BK103.out 1).trans rfl
            have hcz22_2 : wc.cell? ⟨gb103, 2, none⟩ = some (.string (⟨#[]⟩ : ByteArray)) := (blk_cell BK103.out 2).trans rfl
            have hcz22_3 : wc.cell? ⟨gb103, 3, none⟩ = some (.int .i64 0) := (blk_cell BK103.out 3).trans rfl
            have hfz22_0 := blk_frozen BK103.out 0
            have hfz22_1 := blk_frozen BK103.out 1
            have hfz22_2 := blk_frozen BK103.out 2
            have hfz22_3 := blk_frozen BK103.out 3
            go_wp2
            refine bodyPost_ret (results_cell_row rfl _ _ gb103 98 #[.int .i64 a0_0, .int .u64 0, .string a0_2, .int .i64 0] (0, 0) _ rfl (by (with_reducible repeat (first | refine blk_drewN ?_ _ | refine blk_drew ?_ | refine blk_alloc ?_ _)); refine blk_put (cs := #[.int .i64 a0_0, .int .u64 0, .string a0_2, .int .i64 0]) ?_ 3 _ rfl; (with_reducible repeat (first | refine blk_drewN ?_ _ | refine blk_drew ?_ | refine blk_alloc ?_ _)); refine blk_put (cs := #[.int .i64 a0_0, .int .u64 0, .string (⟨#[]⟩ : ByteArray), .int .i64 0]) ?_ 2 _ rfl; (with_reducible repeat (first | refine blk_drewN ?_ _ | refine blk_drew ?_ | refine blk_alloc ?_ _)); refine blk_put (cs := #[.int .i64 a0_0, .int .u64 0, .string (⟨#[]⟩ : ByteArray), .int .i64 0]) ?_ 1 _ rfl; (with_reducible repeat (first | refine blk_drewN ?_ _ | refine blk_drew ?_ | refine blk_alloc ?_ _)); refine blk_put (cs := #[.int .i64 0, .int .u64 0, .string (⟨#[]⟩ : ByteArray), .int .i64 0]) ?_ 0 _ rfl; (with_reducible repeat (first | refine blk_drewN ?_ _ | refine blk_drew ?_ | refine blk_alloc ?_ _)); exact BK103.out) Tryd.underlying98 rfl (by kernel_rfl)) rfl ?_
            exact ⟨by first | rfl | (simp [errW_none, errW_some] <;> rfl) | (simp [*, errW_none, errW_some] <;> rfl), by repeat (first | (with_reducible first | exact HB.out | apply below_alloc | apply pw_below_drewN | apply below_drew1 | refine below_set ?_ GE102.out | refine below_set ?_ GE103.out) | exact HB.out)⟩
          · rw [if_neg c19] at H
            have c19b0 : (a0_0 == 4) = false := beq_eq_false_iff_ne.mpr c19
            have c19b1 : (a0_0 != 4) = true := bne_iff_ne.mpr c19
            by_cases c23 : a0_0 = 5
            · rw [if_pos c23] at H
              have c23b0 : (a0_0 == 5) = true := beq_iff_eq.mpr c23
              have c23b1 : (a0_0 != 5) = false := bne_eq_false_iff_eq.mpr c23
              clear c23
              simp only [Option.some.injEq, Prod.mk.injEq] at H
              obtain ⟨rfl, rfl, rfl, rfl⟩ := H
              have hnb24 := NB102_103.out
              have hnc24 := NB103_102.out
              have hcz25_0 : wc.cell? ⟨gb102, 0, none⟩ = some (.int .i64 a0_0) := (blk_cell BK102.out 0).trans rfl
              have hcz25_1 : wc.cell? ⟨gb102, 1, none⟩ = some (.int .u64 a0_1) := (blk_cell BK102.out 1).trans rfl
              have hcz25_2 : wc.cell? ⟨gb102, 2, none⟩ = some (.string a0_2) := (blk_cell BK102.out 2).trans rfl
              have hcz25_3 : wc.cell? ⟨gb102, 3, none⟩ = some (.int .i64 a0_3) := (blk_cell BK102.out 3).trans rfl
              have hfz25_0 := blk_frozen BK102.out 0
              have hfz25_1 := blk_frozen BK102.out 1
              have hfz25_2 := blk_frozen BK102.out 2
              have hfz25_3 := blk_frozen BK102.out 3
              have hcz26_0 : wc.cell? ⟨gb103, 0, none⟩ = some (.int .i64 0) := (blk_cell BK103.out 0).trans rfl
              have hcz26_1 : wc.cell? ⟨gb103, 1, none⟩ = some (.int .u64 0) := (blk_cell BK103.out 1).trans rfl
              have hcz26_2 : wc.cell? ⟨gb103, 2, none⟩ = some (.string (⟨#[]⟩ : ByteArray)) := (blk_cell BK103.out 2).trans rfl
              have hcz26_3 : wc.cell? ⟨gb103, 3, none⟩ = some (.int .i64 0) := (blk_cell BK103.out 3).trans rfl
              have hfz26_0 := blk_frozen BK103.out 0
              have hfz26_1 := blk_frozen BK103.out 1
              have hfz26_2 := blk_frozen BK103.out 2
              have hfz26_3 := blk_frozen BK103.out 3
              go_wp2
              refine bodyPost_ret (results_cell_row rfl _ _ gb103 98 #[.int .i64 a0_0, .int .u64 0, .string (⟨#[]⟩ : ByteArray), .int .i64 a0_3] (0, 0) _ rfl (by (with_reducible repeat (first | refine blk_drewN ?_ _ | refine blk_drew ?_ | refine blk_alloc ?_ _)); refine blk_put (cs := #[.int .i64 a0_0, .int .u64 0, .string (⟨#[]⟩ : ByteArray), .int .i64 0]) ?_ 3 _ rfl; (with_reducible repeat (first | refine blk_drewN ?_ _ | refine blk_drew ?_ | refine blk_alloc ?_ _)); refine blk_put (cs := #[.int .i64 a0_0, .int .u64 0, .string (⟨#[]⟩ : ByteArray), .int .i64 0]) ?_ 2 _ rfl; (with_reducible repeat (first | refine blk_drewN ?_ _ | refine blk_drew ?_ | refine blk_alloc ?_ _)); refine blk_put (cs := #[.int .i64 a0_0, .int .u64 0, .string (⟨#[]⟩ : ByteArray), .int .i64 0]) ?_ 1 _ rfl; (with_reducible repeat (first | refine blk_drewN ?_ _ | refine blk_drew ?_ | refine blk_alloc ?_ _)); refine blk_put (cs := #[.int .i64 0, .int .u64 0, .string (⟨#[]⟩ : ByteArray), .int .i64 0]) ?_ 0 _ rfl; (with_reducible repeat (first | refine blk_drewN ?_ _ | refine blk_drew ?_ | refine blk_alloc ?_ _)); exact BK103.out) Tryd.underlying98 rfl (by kernel_rfl)) rfl ?_
              exact ⟨by first | rfl | (simp [errW_none, errW_some] <;> rfl) | (simp [*, errW_none, errW_some] <;> rfl), by repeat (first | (with_reducible first | exact HB.out | apply below_alloc | apply pw_below_drewN | apply below_drew1 | refine below_set ?_ GE102.out | refine below_set ?_ GE103.out) | exact HB.out)⟩
            · rw [if_neg c23] at H
              have c23b0 : (a0_0 == 5) = false := beq_eq_false_iff_ne.mpr c23
              have c23b1 : (a0_0 != 5) = true := bne_iff_ne.mpr c23
              by_cases c27 : a0_0 = 6
              · rw [if_pos c27] at H
                have c27b0 : (a0_0 == 6) = true := beq_iff_eq.mpr c27
                have c27b1 : (a0_0 != 6) = false := bne_eq_false_iff_eq.mpr c27
                clear c27
                simp only [Option.some.injEq, Prod.mk.injEq] at H
                obtain ⟨rfl, rfl, rfl, rfl⟩ := H
                have hnb28 := NB102_103.out
                have hnc28 := NB103_102.out
                have hcz29_0 : wc.cell? ⟨gb102, 0, none⟩ = some (.int .i64 a0_0) := (blk_cell BK102.out 0).trans rfl
                have hcz29_1 : wc.cell? ⟨gb102, 1, none⟩ = some (.int .u64 a0_1) := (blk_cell BK102.out 1).trans rfl
                have hcz29_2 : wc.cell? ⟨gb102, 2, none⟩ = some (.string a0_2) := (blk_cell BK102.out 2).trans rfl
                have hcz29_3 : wc.cell? ⟨gb102, 3, none⟩ = some (.int .i64 a0_3) := (blk_cell BK102.out 3).trans rfl
                have hfz29_0 := blk_frozen BK102.out 0
                have hfz29_1 := blk_frozen BK102.out 1
                have hfz29_2 := blk_frozen BK102.out 2
                have hfz29_3 := blk_frozen BK102.out 3
                have hcz30_0 : wc.cell? ⟨gb103, 0, none⟩ = some (.int .i64 0) := (blk_cell BK103.out 0).trans rfl
                have hcz30_1 : wc.cell? ⟨gb103, 1, none⟩ = some (.int .u64 0) := (blk_cell BK103.out 1).trans rfl
                have hcz30_2 : wc.cell? ⟨gb103, 2, none⟩ = some (.string (⟨#[]⟩ : ByteArray)) := (blk_cell BK103.out 2).trans rfl
                have hcz30_3 : wc.cell? ⟨gb103, 3, none⟩ = some (.int .i64 0) := (blk_cell BK103.out 3).trans rfl
                have hfz30_0 := blk_frozen BK103.out 0
                have hfz30_1 := blk_frozen BK103.out 1
                have hfz30_2 := blk_frozen BK103.out 2
                have hfz30_3 := blk_frozen BK103.out 3
                go_wp2
                refine bodyPost_ret (results_cell_row rfl _ _ gb103 98 #[.int .i64 a0_0, .int .u64 0, .string (⟨#[]⟩ : ByteArray), .int .i64 a0_3] (0, 0) _ rfl (by (with_reducible repeat (first | refine blk_drewN ?_ _ | refine blk_drew ?_ | refine blk_alloc ?_ _)); refine blk_put (cs := #[.int .i64 a0_0, .int .u64 0, .string (⟨#[]⟩ : ByteArray), .int .i64 0]) ?_ 3 _ rfl; (with_reducible repeat (first | refine blk_drewN ?_ _ | refine blk_drew ?_ | refine blk_alloc ?_ _)); refine blk_put (cs := #[.int .i64 a0_0, .int .u64 0, .string (⟨#[]⟩ : ByteArray), .int .i64 0]) ?_ 2 _ rfl; (with_reducible repeat (first | refine blk_drewN ?_ _ | refine blk_drew ?_ | refine blk_alloc ?_ _)); refine blk_put (cs := #[.int .i64 a0_0, .int .u64 0, .string (⟨#[]⟩ : ByteArray), .int .i64 0]) ?_ 1 _ rfl; (with_reducible repeat (first | refine blk_drewN ?_ _ | refine blk_drew ?_ | refine blk_alloc ?_ _)); refine blk_put (cs := #[.int .i64 0, .int .u64 0, .string (⟨#[]⟩ : ByteArray), .int .i64 0]) ?_ 0 _ rfl; (with_reducible repeat (first | refine blk_drewN ?_ _ | refine blk_drew ?_ | refine blk_alloc ?_ _)); exact BK103.out) Tryd.underlying98 rfl (by kernel_rfl)) rfl ?_
                exact ⟨by first | rfl | (simp [errW_none, errW_some] <;> rfl) | (simp [*, errW_none, errW_some] <;> rfl), by repeat (first | (with_reducible first | exact HB.out | apply below_alloc | apply pw_below_drewN | apply below_drew1 | refine below_set ?_ GE102.out | refine below_set ?_ GE103.out) | exact HB.out)⟩
              · rw [if_neg c27] at H
                have c27b0 : (a0_0 == 6) = false := beq_eq_false_iff_ne.mpr c27
                have c27b1 : (a0_0 != 6) = true := bne_iff_ne.mpr c27
                by_cases c31 : a0_0 = 7
                · rw [if_pos c31] at H
                  have c31b0 : (a0_0 == 7) = true := beq_iff_eq.mpr c31
                  have c31b1 : (a0_0 != 7) = false := bne_eq_false_iff_eq.mpr c31
                  clear c31
                  simp only [Option.some.injEq, Prod.mk.injEq] at H
                  obtain ⟨rfl, rfl, rfl, rfl⟩ := H
                  have hnb32 := NB102_103.out
                  have hnc32 := NB103_102.out
                  have hcz33_0 : wc.cell? ⟨gb102, 0, none⟩ = some (.int .i64 a0_0) := (blk_cell BK102.out 0).trans rfl
                  have hcz33_1 : wc.cell? ⟨gb102, 1, none⟩ = some (.int .u64 a0_1) := (blk_cell BK102.out 1).trans rfl
                  have hcz33_2 : wc.cell? ⟨gb102, 2, none⟩ = some (.string a0_2) := (blk_cell BK102.out 2).trans rfl
                  have hcz33_3 : wc.cell? ⟨gb102, 3, none⟩ = some (.int .i64 a0_3) := (blk_cell BK102.out 3).trans rfl
                  have hfz33_0 := blk_frozen BK102.out 0
                  have hfz33_1 := blk_frozen BK102.out 1
                  have hfz33_2 := blk_frozen BK102.out 2
                  have hfz33_3 := blk_frozen BK102.out 3
                  have hcz34_0 : wc.cell? ⟨gb103, 0, none⟩ = some (.int .i64 0) := (blk_cell BK103.out 0).trans rfl
                  have hcz34_1 : wc.cell? ⟨gb103, 1, none⟩ = some (.int .u64 0) := (blk_cell BK103.out 1).trans rfl
                  have hcz34_2 : wc.cell? ⟨gb103, 2, none⟩ = some (.string (⟨#[]⟩ : ByteArray)) := (blk_cell BK103.out 2).trans rfl
                  have hcz34_3 : wc.cell? ⟨gb103, 3, none⟩ = some (.int .i64 0) := (blk_cell BK103.out 3).trans rfl
                  have hfz34_0 := blk_frozen BK103.out 0
                  have hfz34_1 := blk_frozen BK103.out 1
                  have hfz34_2 := blk_frozen BK103.out 2
                  have hfz34_3 := blk_frozen BK103.out 3
                  go_wp2
                  refine bodyPost_ret (results_cell_row rfl _ _ gb103 98 #[.int .i64 a0_0, .int .u64 0, .string (⟨#[]⟩ : ByteArray), .int .i64 a0_3] (0, 0) _ rfl (by (with_reducible repeat (first | refine blk_drewN ?_ _ | refine blk_drew ?_ | refine blk_alloc ?_ _)); refine blk_put (cs := #[.int .i64 a0_0, .int .u64 0, .string (⟨#[]⟩ : ByteArray), .int .i64 0]) ?_ 3 _ rfl; (with_reducible repeat (first | refine blk_drewN ?_ _ | refine blk_drew ?_ | refine blk_alloc ?_ _)); refine blk_put (cs := #[.int .i64 a0_0, .int .u64 0, .string (⟨#[]⟩ : ByteArray), .int .i64 0]) ?_ 2 _ rfl; (with_reducible repeat (first | refine blk_drewN ?_ _ | refine blk_drew ?_ | refine blk_alloc ?_ _)); refine blk_put (cs := #[.int .i64 a0_0, .int .u64 0, .string (⟨#[]⟩ : ByteArray), .int .i64 0]) ?_ 1 _ rfl; (with_reducible repeat (first | refine blk_drewN ?_ _ | refine blk_drew ?_ | refine blk_alloc ?_ _)); refine blk_put (cs := #[.int .i64 0, .int .u64 0, .string (⟨#[]⟩ : ByteArray), .int .i64 0]) ?_ 0 _ rfl; (with_reducible repeat (first | refine blk_drewN ?_ _ | refine blk_drew ?_ | refine blk_alloc ?_ _)); exact BK103.out) Tryd.underlying98 rfl (by kernel_rfl)) rfl ?_
                  exact ⟨by first | rfl | (simp [errW_none, errW_some] <;> rfl) | (simp [*, errW_none, errW_some] <;> rfl), by repeat (first | (with_reducible first | exact HB.out | apply below_alloc | apply pw_below_drewN | apply below_drew1 | refine below_set ?_ GE102.out | refine below_set ?_ GE103.out) | exact HB.out)⟩
                · rw [if_neg c31] at H
                  have c31b0 : (a0_0 == 7) = false := beq_eq_false_iff_ne.mpr c31
                  have c31b1 : (a0_0 != 7) = true := bne_iff_ne.mpr c31
                  by_cases c35 : a0_0 = 8
                  · rw [if_pos c35] at H
                    have c35b0 : (a0_0 == 8) = true := beq_iff_eq.mpr c35
                    have c35b1 : (a0_0 != 8) = false := bne_eq_false_iff_eq.mpr c35
                    clear c35
                    simp only [Option.some.injEq, Prod.mk.injEq] at H
                    obtain ⟨rfl, rfl, rfl, rfl⟩ := H
                    have hnb36 := NB102_103.out
                    have hnc36 := NB103_102.out
                    have hcz37_0 : wc.cell? ⟨gb102, 0, none⟩ = some (.int .i64 a0_0) := (blk_cell BK102.out 0).trans rfl
                    have hcz37_1 : wc.cell? ⟨gb102, 1, none⟩ = some (.int .u64 a0_1) := (blk_cell BK102.out 1).trans rfl
                    have hcz37_2 : wc.cell? ⟨gb102, 2, none⟩ = some (.string a0_2) := (blk_cell BK102.out 2).trans rfl
                    have hcz37_3 : wc.cell? ⟨gb102, 3, none⟩ = some (.int .i64 a0_3) := (blk_cell BK102.out 3).trans rfl
                    have hfz37_0 := blk_frozen BK102.out 0
                    have hfz37_1 := blk_frozen BK102.out 1
                    have hfz37_2 := blk_frozen BK102.out 2
                    have hfz37_3 := blk_frozen BK102.out 3
                    have hcz38_0 : wc.cell? ⟨gb103, 0, none⟩ = some (.int .i64 0) := (blk_cell BK103.out 0).trans rfl
                    have hcz38_1 : wc.cell? ⟨gb103, 1, none⟩ = some (.int .u64 0) := (blk_cell BK103.out 1).trans rfl
                    have hcz38_2 : wc.cell? ⟨gb103, 2, none⟩ = some (.string (⟨#[]⟩ : ByteArray)) := (blk_cell BK103.out 2).trans rfl
                    have hcz38_3 : wc.cell? ⟨gb103, 3, none⟩ = some (.int .i64 0) := (blk_cell BK103.out 3).trans rfl
                    have hfz38_0 := blk_frozen BK103.out 0
                    have hfz38_1 := blk_frozen BK103.out 1
                    have hfz38_2 := blk_frozen BK103.out 2
                    have hfz38_3 := blk_frozen BK103.out 3
                    go_wp2
                    refine bodyPost_ret (results_cell_row rfl _ _ gb103 98 #[.int .i64 a0_0, .int .u64 0, .string (⟨#[]⟩ : ByteArray), .int .i64 a0_3] (0, 0) _ rfl (by (with_reducible repeat (first | refine blk_drewN ?_ _ | refine blk_drew ?_ | refine blk_alloc ?_ _)); refine blk_put (cs := #[.int .i64 a0_0, .int .u64 0, .string (⟨#[]⟩ : ByteArray), .int .i64 0]) ?_ 3 _ rfl; (with_reducible repeat (first | refine blk_drewN ?_ _ | refine blk_drew ?_ | refine blk_alloc ?_ _)); refine blk_put (cs := #[.int .i64 a0_0, .int .u64 0, .string (⟨#[]⟩ : ByteArray), .int .i64 0]) ?_ 2 _ rfl; (with_reducible repeat (first | refine blk_drewN ?_ _ | refine blk_drew ?_ | refine blk_alloc ?_ _)); refine blk_put (cs := #[.int .i64 a0_0, .int .u64 0, .string (⟨#[]⟩ : ByteArray), .int .i64 0]) ?_ 1 _ rfl; (with_reducible repeat (first | refine blk_drewN ?_ _ | refine blk_drew ?_ | refine blk_alloc ?_ _)); refine blk_put (cs := #[.int .i64 0, .int .u64 0, .string (⟨#[]⟩ : ByteArray), .int .i64 0]) ?_ 0 _ rfl; (with_reducible repeat (first | refine blk_drewN ?_ _ | refine blk_drew ?_ | refine blk_alloc ?_ _)); exact BK103.out) Tryd.underlying98 rfl (by kernel_rfl)) rfl ?_
                    exact ⟨by first | rfl | (simp [errW_none, errW_some] <;> rfl) | (simp [*, errW_none, errW_some] <;> rfl), by repeat (first | (with_reducible first | exact HB.out | apply below_alloc | apply pw_below_drewN | apply below_drew1 | refine below_set ?_ GE102.out | refine below_set ?_ GE103.out) | exact HB.out)⟩
                  · rw [if_neg c35] at H
                    have c35b0 : (a0_0 == 8) = false := beq_eq_false_iff_ne.mpr c35
                    have c35b1 : (a0_0 != 8) = true := bne_iff_ne.mpr c35
                    simp only [Option.some.injEq, Prod.mk.injEq] at H
                    obtain ⟨rfl, rfl, rfl, rfl⟩ := H
                    have hnb39 := NB103_102.out
                    have hnc39 := NB102_103.out
                    have hcz40_0 : wc.cell? ⟨gb103, 0, none⟩ = some (.int .i64 0) := (blk_cell BK103.out 0).trans rfl
                    have hcz40_1 : wc.cell? ⟨gb103, 1, none⟩ = some (.int .u64 0) := (blk_cell BK103.out 1).trans rfl
                    have hcz40_2 : wc.cell? ⟨gb103, 2, none⟩ = some (.string (⟨#[]⟩ : ByteArray)) := (blk_cell BK103.out 2).trans rfl
                    have hcz40_3 : wc.cell? ⟨gb103, 3, none⟩ = some (.int .i64 0) := (blk_cell BK103.out 3).trans rfl
                    have hfz40_0 := blk_frozen BK103.out 0
                    have hfz40_1 := blk_frozen BK103.out 1
                    have hfz40_2 := blk_frozen BK103.out 2
                    have hfz40_3 := blk_frozen BK103.out 3
                    go_wp2
                    refine bodyPost_ret (results_cell_row rfl _ _ gb103 98 #[.int .i64 0, .int .u64 0, .string (⟨#[]⟩ : ByteArray), .int .i64 0] (0, 0) _ rfl (by (with_reducible repeat (first | refine blk_drewN ?_ _ | refine blk_drew ?_ | refine blk_alloc ?_ _)); refine blk_put (cs := #[.int .i64 0, .int .u64 0, .string (⟨#[]⟩ : ByteArray), .int .i64 0]) ?_ 3 _ rfl; (with_reducible repeat (first | refine blk_drewN ?_ _ | refine blk_drew ?_ | refine blk_alloc ?_ _)); refine blk_put (cs := #[.int .i64 0, .int .u64 0, .string (⟨#[]⟩ : ByteArray), .int .i64 0]) ?_ 2 _ rfl; (with_reducible repeat (first | refine blk_drewN ?_ _ | refine blk_drew ?_ | refine blk_alloc ?_ _)); refine blk_put (cs := #[.int .i64 0, .int .u64 0, .string (⟨#[]⟩ : ByteArray), .int .i64 0]) ?_ 1 _ rfl; (with_reducible repeat (first | refine blk_drewN ?_ _ | refine blk_drew ?_ | refine blk_alloc ?_ _)); refine blk_put (cs := #[.int .i64 0, .int .u64 0, .string (⟨#[]⟩ : ByteArray), .int .i64 0]) ?_ 0 _ rfl; (with_reducible repeat (first | refine blk_drewN ?_ _ | refine blk_drew ?_ | refine blk_alloc ?_ _)); exact BK103.out) Tryd.underlying98 rfl (by kernel_rfl)) rfl ?_
                    exact ⟨by first | rfl | (simp [errW_none, errW_some] <;> rfl) | (simp [*, errW_none, errW_some] <;> rfl), by repeat (first | (with_reducible first | exact HB.out | apply below_alloc | apply pw_below_drewN | apply below_drew1 | refine below_set ?_ GE102.out | refine below_set ?_ GE103.out) | exact HB.out)⟩
def value_Normal.f (k : Nat) (a0_0 : Int) (a0_1 : Int) (a0_2 : ByteArray) (a0_3 : Int) : Option (Int × Int × ByteArray × Int) := (value_normal.f k a0_0 a0_1 a0_2 a0_3).bind fun bt107 => (some (bt107.1, bt107.2.1, bt107.2.2.1, bt107.2.2.2))
set_option maxHeartbeats 8000000 in
set_option maxRecDepth 100000 in
theorem value_Normal.calls (k : Nat) (a0_0 : Int) (a0_1 : Int) (a0_2 : ByteArray) (a0_3 : Int) (r1 : Int) (r2 : Int) (r3 : ByteArray) (r4 : Int) (w : World) (h : value_Normal.f k a0_0 a0_1 a0_2 a0_3 = some (r1, r2, r3, r4)) :
    Calls Tryd.prog 65 #[.agg #[.int .i64 a0_0, .int .u64 a0_1, .string a0_2, .int .i64 a0_3]] w fun e w' => e = .returned (.agg #[.int .i64 r1, .int .u64 r2, .string r3, .int .i64 r4]) ∧ Below w.heap.size w w' := by
  have hu98 := Tryd.underlying98
  have HB := Aside0.mk (Below.refl w.heap.size w)
  have H : ((value_normal.f k a0_0 a0_1 a0_2 a0_3).bind fun bt107 => (some (bt107.1, bt107.2.1, bt107.2.2.1, bt107.2.2.2))) = some (r1, r2, r3, r4) := h
  clear h
  replace H := Option.bind_eq_some_iff.mp H
  obtain ⟨⟨t107, t108, t109, t110⟩, A20, H⟩ := H
  replace H : (some (t107, t108, t109, t110)) = some (r1, r2, r3, r4) := H
  have A2 := Aside0.mk A20
  clear A20
  simp only [Option.some.injEq, Prod.mk.injEq] at H
  obtain ⟨rfl, rfl, rfl, rfl⟩ := H
  go_enter Tryd.func65, Tryd.ntmps65
  go_wp2_with (first | ((with_reducible refine gate_dst (N := 1) rfl ?_); refine box_event ?hg (N := 1) ?hd (cs := #[.int .i64 a0_0, .int .u64 a0_1, .string a0_2, .int .i64 a0_3]) (t := 98) ?hr ?_; (case hd => rfl); (case hg => rfl); (case hr => first | (go_simp; done) | (go_simp; rfl)); intro gb105 hg w3 hbox hb; have n0_ := Aside0.mk (below_step (by repeat (first | (with_reducible first | exact HB.out | apply below_alloc | apply pw_below_drewN | apply below_drew1) | exact HB.out)) hb); have n1_ := Aside0.mk (hbox); have n2_ := Aside0.mk ((by rw [hg]; exact (below_size (by repeat (first | (with_reducible first | exact HB.out | apply below_alloc | apply pw_below_drewN | apply below_drew1) | exact HB.out))) : w.heap.size ≤ gb105)); have n3_ := Aside0.mk ((by rw [hg]; exact (below_size (by repeat (first | (with_reducible first | exact HB.out | apply below_alloc | apply pw_below_drewN | apply below_drew1) | exact HB.out))) : w.heap.size ≤ gb105)); clear HB; have HB := n0_; have BK105 := n1_; have GW105 := n2_; have GE105 := n3_; clear n0_ n1_ n2_ n3_; clear hb hbox hg) | ((with_reducible refine gate_dst (N := 2) rfl ?_); refine box_event ?hg (N := 2) ?hd (cs := #[.int .i64 0, .int .u64 0, .string (⟨#[]⟩ : ByteArray), .int .i64 0]) (t := 98) ?hr ?_; (case hd => rfl); (case hg => rfl); (case hr => first | (go_simp; done) | (go_simp; rfl)); intro gb106 hg w4 hbox hb; have n0_ := Aside0.mk (blk_below (g := gb105) (o := .cells #[.int .i64 a0_0, .int .u64 a0_1, .string a0_2, .int .i64 a0_3] 98 (0, 0)) (by (with_reducible repeat (first | refine blk_drewN ?_ _ | refine blk_drew ?_ | refine blk_alloc ?_ _)); exact BK105.out) hb); have n1_ := Aside0.mk (below_step (by repeat (first | (with_reducible first | exact HB.out | apply below_alloc | apply pw_below_drewN | apply below_drew1 | refine below_set ?_ GE105.out) | exact HB.out)) hb); have n2_ := Aside0.mk (hbox); have n3_ := Aside0.mk ((by rw [hg]; exact (below_size (by repeat (first | (with_reducible first | exact HB.out | apply below_alloc | apply pw_below_drewN | apply below_drew1 | refine below_set ?_ GE105.out) | exact HB.out))) : w.heap.size ≤ gb106)); have n4_ := Aside0.mk ((by rw [hg]; exact (below_size (by repeat (first | (with_reducible first | exact HB.out | apply below_alloc | apply pw_below_drewN | apply below_drew1 | refine below_set ?_ GE105.out) | exact HB.out))) : w.heap.size ≤ gb106)); have n5_ := Aside0.mk ((by rw [hg]; exact Nat.ne_of_lt (blk_lt (g := gb105) (o := .cells #[.int .i64 a0_0, .int .u64 a0_1, .string a0_2, .int .i64 a0_3] 98 (0, 0)) (by (with_reducible repeat (first | refine blk_drewN ?_ _ | refine blk_drew ?_ | refine blk_alloc ?_ _)); exact BK105.out)) : gb105 ≠ gb106)); have n6_ := Aside0.mk ((by rw [hg]; exact Nat.ne_of_gt (blk_lt (g := gb105) (o := .cells #[.int .i64 a0_0, .int .u64 a0_1, .string a0_2, .int .i64 a0_3] 98 (0, 0)) (by (with_reducible repeat (first | refine blk_drewN ?_ _ | refine blk_drew ?_ | refine blk_alloc ?_ _)); exact BK105.out)) : gb106 ≠ gb105)); clear BK105; clear HB; have BK105 := n0_; have HB := n1_; have BK106 := n2_; have GW106 := n3_; have GE106 := n4_; have NB105_106 := n5_; have NB106_105 := n6_; clear n0_ n1_ n2_ n3_ n4_ n5_ n6_; clear hb hbox hg; have hnb5 := NB105_106.out; have hnc5 := NB106_105.out; have hcz6_0 : w4.cell? ⟨gb105, 0, none⟩ = some (.int .i64 a0_0) := (blk_cell BK105.out 0).trans rfl; have hcz6_1 : w4.cell? ⟨gb105, 1, none⟩ = some (.int .u64 a0_1) := (blk_cell BK105.out 1).trans rfl; have hcz6_2 : w4.cell? ⟨gb105, 2, none⟩ = some (.string a0_2) := (blk_cell BK105.out 2).trans rfl; have hcz6_3 : w4.cell? ⟨gb105, 3, none⟩ = some (.int .i64 a0_3) := (blk_cell BK105.out 3).trans rfl; have hfz6_0 := blk_frozen BK105.out 0; have hfz6_1 := blk_frozen BK105.out 1; have hfz6_2 := blk_frozen BK105.out 2; have hfz6_3 := blk_frozen BK105.out 3) | ((with_reducible refine gate_callee (f := 76) rfl ?_); refine goesL_ (some 4) rfl rfl Tryd.func76 (by kernel_rfl) rfl #[.agg #[.int .i64 a0_0, .int .u64 a0_1, .string a0_2, .int .i64 a0_3]] rfl (by (try simp only [List.map_toArray, List.map_cons, List.map_nil]); first | done | rfl | (simp only [List.length_drop, List.length_take]; rfl)) ?_; (with_reducible refine (value_normal.calls k a0_0 a0_1 a0_2 a0_3 t107 t108 t109 t110 _ A2.out).mono ?_); rintro e w7 ⟨rfl, hb⟩; refine ⟨_, rfl, ?_⟩; have n0_ := Aside0.mk (blk_below (g := gb105) (o := .cells #[.int .i64 a0_0, .int .u64 a0_1, .string a0_2, .int .i64 a0_3] 98 (0, 0)) (by (with_reducible repeat (first | refine blk_drewN ?_ _ | refine blk_drew ?_ | refine blk_alloc ?_ _)); exact BK105.out) hb); have n1_ := Aside0.mk (blk_below (g := gb106) (o := .cells #[.int .i64 0, .int .u64 0, .string (⟨#[]⟩ : ByteArray), .int .i64 0] 98 (0, 0)) (by (with_reducible repeat (first | refine blk_drewN ?_ _ | refine blk_drew ?_ | refine blk_alloc ?_ _)); exact BK106.out) hb); have n2_ := Aside0.mk (below_step (by repeat (first | (with_reducible first | exact HB.out | apply below_alloc | apply pw_below_drewN | apply below_drew1 | refine below_set ?_ GE105.out | refine below_set ?_ GE106.out) | exact HB.out)) hb); clear BK105; clear BK106; clear HB; have BK105 := n0_; have BK106 := n1_; have HB := n2_; clear n0_ n1_ n2_; (try clear hb); (try clear hb2); (try clear hk); (try clear hi); have hcz8_0 : w7.cell? ⟨gb106, 0, none⟩ = some (.int .i64 0) := (blk_cell BK106.out 0).trans rfl; have hcz8_1 : w7.cell? ⟨gb106, 1, none⟩ = some (.int .u64 0) := (blk_cell BK106.out 1).trans rfl; have hcz8_2 : w7.cell? ⟨gb106, 2, none⟩ = some (.string (⟨#[]⟩ : ByteArray)) := (blk_cell BK106.out 2).trans rfl; have hcz8_3 : w7.cell? ⟨gb106, 3, none⟩ = some (.int .i64 0) := (blk_cell BK106.out 3).trans rfl; have hfz8_0 := blk_frozen BK106.out 0; have hfz8_1 := blk_frozen BK106.out 1; have hfz8_2 := blk_frozen BK106.out 2; have hfz8_3 := blk_frozen BK106.out 3))
  refine bodyPost_ret (results_cell_row rfl _ _ gb106 98 #[.int .i64 t107, .int .u64 t108, .string t109, .int .i64 t110] (0, 0) _ rfl (by (with_reducible repeat (first | refine blk_drewN ?_ _ | refine blk_drew ?_ | refine blk_alloc ?_ _)); refine blk_put (cs := #[.int .i64 t107, .int .u64 t108, .string t109, .int .i64 0]) ?_ 3 _ rfl; (with_reducible repeat (first | refine blk_drewN ?_ _ | refine blk_drew ?_ | refine blk_alloc ?_ _)); refine blk_put (cs := #[.int .i64 t107, .int .u64 t108, .string (⟨#[]⟩ : ByteArray), .int .i64 0]) ?_ 2 _ rfl; (with_reducible repeat (first | refine blk_drewN ?_ _ | refine blk_drew ?_ | refine blk_alloc ?_ _)); refine blk_put (cs := #[.int .i64 t107, .int .u64 0, .string (⟨#[]⟩ : ByteArray), .int .i64 0]) ?_ 1 _ rfl; (with_reducible repeat (first | refine blk_drewN ?_ _ | refine blk_drew ?_ | refine blk_alloc ?_ _)); refine blk_put (cs := #[.int .i64 0, .int .u64 0, .string (⟨#[]⟩ : ByteArray), .int .i64 0]) ?_ 0 _ rfl; (with_reducible repeat (first | refine blk_drewN ?_ _ | refine blk_drew ?_ | refine blk_alloc ?_ _)); exact BK106.out) Tryd.underlying98 rfl (by kernel_rfl)) rfl ?_
  exact ⟨by first | rfl | (simp [errW_none, errW_some] <;> rfl) | (simp [*, errW_none, errW_some] <;> rfl), by repeat (first | (with_reducible first | exact HB.out | apply below_alloc | apply pw_below_drewN | apply below_drew1 | refine below_set ?_ GE105.out | refine below_set ?_ GE106.out) | exact HB.out)⟩
def prog_ends.f (a0_0 : Int) (a0_1 : Int) (l0_2 : List (S94)) (l0_3 : List (S36)) (l0_4 : List (S98)) (l0_5 : List (S27)) : Option (Bool) := if (l0_3.length : Int) = 0 then (some false) else (if 0 ≤ (wrap64 ((l0_3.length : Int) - 1)) then (if (wrap64 ((l0_3.length : Int) - 1)) < (l0_3.length : Int) then (if ((rd_T36 l0_3 (wrap64 ((l0_3.length : Int) - 1))).f0) = 29 then (some true) else (if ((rd_T36 l0_3 (wrap64 ((l0_3.length : Int) - 1))).f0) = 33 then (some true) else (if ((rd_T36 l0_3 (wrap64 ((l0_3.length : Int) - 1))).f0) = 34 then (some true) else (some false)))) else (none)) else (none))
set_option maxHeartbeats 8000000 in
set_option maxRecDepth 100000 in
theorem prog_ends.calls (a0_0 : Int) (a0_1 : Int) (A0_2 : Option Addr) (c0_2 : Nat) (l0_2 : List (S94)) (A0_3 : Option Addr) (c0_3 : Nat) (l0_3 : List (S36)) (A0_4 : Option Addr) (c0_4 : Nat) (l0_4 : List (S98)) (A0_5 : Option Addr) (c0_5 : Nat) (l0_5 : List (S27)) (r : Bool) (w : World) (hr0_2 : Kd.C k94 w A0_2 l0_2.length l0_2) (hc0_2 : l0_2.length ≤ c0_2) (hr0_3 : Kd.C k36 w A0_3 l0_3.length l0_3) (hc0_3 : l0_3.length ≤ c0_3) (hr0_4 : Kd.C k98 w A0_4 l0_4.length l0_4) (hc0_4 : l0_4.length ≤ c0_4) (hr0_5 : Kd.C k27 w A0_5 l0_5.length l0_5) (hc0_5 : l0_5.length ≤ c0_5) (h : prog_ends.f a0_0 a0_1 l0_2 l0_3 l0_4 l0_5 = some r) :
    Calls Tryd.prog 66 #[.agg #[.int .i64 a0_0, .int .i64 a0_1, .slice A0_2 l0_2.length c0_2, .slice A0_3 l0_3.length c0_3, .slice A0_4 l0_4.length c0_4, .slice A0_5 l0_5.length c0_5]] w fun e w' => e = .returned (.bool r) ∧ Below w.heap.size w w' := by
  have hu27 := Tryd.underlying27
  have HR0_2 := Aside0.mk hr0_2
  have HC0_2 := Aside0.mk hc0_2
  clear hr0_2 hc0_2
  have HR0_3 := Aside0.mk hr0_3
  have HC0_3 := Aside0.mk hc0_3
  clear hr0_3 hc0_3
  have HR0_4 := Aside0.mk hr0_4
  have HC0_4 := Aside0.mk hc0_4
  clear hr0_4 hc0_4
  have HR0_5 := Aside0.mk hr0_5
  have HC0_5 := Aside0.mk hc0_5
  clear hr0_5 hc0_5
  have HB := Aside0.mk (Below.refl w.heap.size w)
  have H : (if (l0_3.length : Int) = 0 then (some false) else (if 0 ≤ (wrap64 ((l0_3.length : Int) - 1)) then (if (wrap64 ((l0_3.length : Int) - 1)) < (l0_3.length : Int) then (if ((rd_T36 l0_3 (wrap64 ((l0_3.length : Int) - 1))).f0) = 29 then (some true) else (if ((rd_T36 l0_3 (wrap64 ((l0_3.length : Int) - 1))).f0) = 33 then (some true) else (if ((rd_T36 l0_3 (wrap64 ((l0_3.length : Int) - 1))).f0) = 34 then (some true) else (some false)))) else (none)) else (none))) = some r := h
  clear h
  by_cases c2 : (l0_3.length : Int) = 0
  · rw [if_pos c2] at H
    have c2b0 : ((l0_3.length : Int) == 0) = true := beq_iff_eq.mpr c2
    have c2b1 : ((l0_3.length : Int) != 0) = false := bne_eq_false_iff_eq.mpr c2
    clear c2
    obtain rfl := Option.some.inj H
    go_enter Tryd.func66, Tryd.ntmps66
    go_wp2_with (first | ((with_reducible refine gate_dst (N := 1) rfl ?_); refine box_event ?hg (N := 1) ?hd (cs := #[.int .i64 a0_0, .int .i64 a0_1, .slice A0_2 l0_2.length c0_2, .slice A0_3 l0_3.length c0_3, .slice A0_4 l0_4.length c0_4, .slice A0_5 l0_5.length c0_5]) (t := 27) ?hr ?_; (case hd => rfl); (case hg => rfl); (case hr => first | (go_simp; done) | (go_simp; rfl)); intro gb111 hg w3 hbox hb; have n0_ := Aside0.mk (below_step (by repeat (first | (with_reducible first | exact HB.out | apply below_alloc | apply pw_below_drewN | apply below_drew1) | exact HB.out)) hb); have n1_ := Aside0.mk (hbox); have n2_ := Aside0.mk ((by rw [hg]; exact (below_size (by repeat (first | (with_reducible first | exact HB.out | apply below_alloc | apply pw_below_drewN | apply below_drew1) | exact HB.out))) : w.heap.size ≤ gb111)); have n3_ := Aside0.mk ((by rw [hg]; exact (below_size (by repeat (first | (with_reducible first | exact HB.out | apply below_alloc | apply pw_below_drewN | apply below_drew1) | exact HB.out))) : w.heap.size ≤ gb111)); clear HB; have HB := n0_; have BK111 := n1_; have GW111 := n2_; have GE111 := n3_; clear n0_ n1_ n2_ n3_; clear hb hbox hg; have hcz4_0 : w3.cell? ⟨gb111, 0, none⟩ = some (.int .i64 a0_0) := (blk_cell BK111.out 0).trans rfl; have hcz4_1 : w3.cell? ⟨gb111, 1, none⟩ = some (.int .i64 a0_1) := (blk_cell BK111.out 1).trans rfl; have hcz4_2 : w3.cell? ⟨gb111, 2, none⟩ = some (.slice A0_2 l0_2.length c0_2) := (blk_cell BK111.out 2).trans rfl; have hcz4_3 : w3.cell? ⟨gb111, 3, none⟩ = some (.slice A0_3 l0_3.length c0_3) := (blk_cell BK111.out 3).trans rfl; have hcz4_4 : w3.cell? ⟨gb111, 4, none⟩ = some (.slice A0_4 l0_4.length c0_4) := (blk_cell BK111.out 4).trans rfl; have hcz4_5 : w3.cell? ⟨gb111, 5, none⟩ = some (.slice A0_5 l0_5.length c0_5) := (blk_cell BK111.out 5).trans rfl; have hfz4_0 := blk_frozen BK111.out 0; have hfz4_1 := blk_frozen BK111.out 1; have hfz4_2 := blk_frozen BK111.out 2; have hfz4_3 := blk_frozen BK111.out 3; have hfz4_4 := blk_frozen BK111.out 4; have hfz4_5 := blk_frozen BK111.out 5))
    go_ret
    exact ⟨by first | rfl | (simp [errW_none, errW_some] <;> rfl) | (simp [*, errW_none, errW_some] <;> rfl), by repeat (first | (with_reducible first | exact HB.out | apply below_alloc | apply pw_below_drewN | apply below_drew1 | refine below_set ?_ GE111.out) | exact HB.out)⟩
  · rw [if_neg c2] at H
    have c2b0 : ((l0_3.length : Int) == 0) = false := beq_eq_false_iff_ne.mpr c2
    have c2b1 : ((l0_3.length : Int) != 0) = true := bne_iff_ne.mpr c2
    have c2b2 : ¬ (l0_3 = []) := fun h_ => c2 (by rw [h_]; rfl)
    obtain ⟨ji5, hji5⟩ : ∃ j_ : Int, (wrap64 ((l0_3.length : Int) - 1)) = j_ := ⟨_, rfl⟩
    replace H : (if 0 ≤ (ji5) then (if (ji5) < (l0_3.length : Int) then (if ((rd_T36 l0_3 (ji5)).f0) = 29 then (some true) else (if ((rd_T36 l0_3 (ji5)).f0) = 33 then (some true) else (if ((rd_T36 l0_3 (ji5)).f0) = 34 then (some true) else (some false)))) else (none)) else (none)) = some r := by first | (rw [hji5] at H; exact H) | (simp only [hji5] at H ⊢; exact H)
    have hji5w : (IntKind.i64.wrap ((l0_3.length : Int) - 1)) = ji5 := (i64_w _).trans hji5
    by_cases c6 : 0 ≤ (ji5)
    · rw [if_pos c6] at H
      have c6b0 : decide (0 ≤ (ji5)) = true := decide_eq_true c6
      clear c6
      by_cases c7 : (ji5) < (l0_3.length : Int)
      · rw [if_pos c7] at H
        have c7b0 : decide ((ji5) < (l0_3.length : Int)) = true := decide_eq_true c7
        clear c7
        by_cases c8 : ((rd_T36 l0_3 (ji5)).f0) = 29
        · rw [if_pos c8] at H
          have c8b0 : (((rd_T36 l0_3 (ji5)).f0) == 29) = true := beq_iff_eq.mpr c8
          have c8b1 : (((rd_T36 l0_3 (ji5)).f0) != 29) = false := bne_eq_false_iff_eq.mpr c8
          clear c8
          obtain rfl := Option.some.inj H
          go_enter Tryd.func66, Tryd.ntmps66
          go_wp2_with (first | ((with_reducible refine gate_dst (N := 1) rfl ?_); refine box_event ?hg (N := 1) ?hd (cs := #[.int .i64 a0_0, .int .i64 a0_1, .slice A0_2 l0_2.length c0_2, .slice A0_3 l0_3.length c0_3, .slice A0_4 l0_4.length c0_4, .slice A0_5 l0_5.length c0_5]) (t := 27) ?hr ?_; (case hd => rfl); (case hg => rfl); (case hr => first | (go_simp; done) | (go_simp; rfl)); intro gb111 hg w9 hbox hb; have n0_ := Aside0.mk (below_step (by repeat (first | (with_reducible first | exact HB.out | apply below_alloc | apply pw_below_drewN | apply below_drew1) | exact HB.out)) hb); have n1_ := Aside0.mk (hbox); have n2_ := Aside0.mk ((by rw [hg]; exact (below_size (by repeat (first | (with_reducible first | exact HB.out | apply below_alloc | apply pw_below_drewN | apply below_drew1) | exact HB.out))) : w.heap.size ≤ gb111)); have n3_ := Aside0.mk ((by rw [hg]; exact (below_size (by repeat (first | (with_reducible first | exact HB.out | apply below_alloc | apply pw_below_drewN | apply below_drew1) | exact HB.out))) : w.heap.size ≤ gb111)); clear HB; have HB := n0_; have BK111 := n1_; have GW111 := n2_; have GE111 := n3_; clear n0_ n1_ n2_ n3_; clear hb hbox hg; have hcz10_0 : w9.cell? ⟨gb111, 0, none⟩ = some (.int .i64 a0_0) := (blk_cell BK111.out 0).trans rfl; have hcz10_1 : w9.cell? ⟨gb111, 1, none⟩ = some (.int .i64 a0_1) := (blk_cell BK111.out 1).trans rfl; have hcz10_2 : w9.cell? ⟨gb111, 2, none⟩ = some (.slice A0_2 l0_2.length c0_2) := (blk_cell BK111.out 2).trans rfl; have hcz10_3 : w9.cell? ⟨gb111, 3, none⟩ = some (.slice A0_3 l0_3.length c0_3) := (blk_cell BK111.out 3).trans rfl; have hcz10_4 : w9.cell? ⟨gb111, 4, none⟩ = some (.slice A0_4 l0_4.length c0_4) := (blk_cell BK111.out 4).trans rfl; have hcz10_5 : w9.cell? ⟨gb111, 5, none⟩ = some (.slice A0_5 l0_5.length c0_5) := (blk_cell BK111.out 5).trans rfl; have hfz10_0 := blk_frozen BK111.out 0; have hfz10_1 := blk_frozen BK111.out 1; have hfz10_2 := blk_frozen BK111.out 2; have hfz10_3 := blk_frozen BK111.out 3; have hfz10_4 := blk_frozen BK111.out 4; have hfz10_5 := blk_frozen BK111.out 5; have p112 : 0 ≤ ((ji5) : Int) := of_decide_eq_true (by first | (with_reducible assumption) | assumption); have q112 : (ji5) < (l0_3.length : Int) := of_decide_eq_true (by first | (with_reducible assumption) | assumption); obtain ⟨ad112, e112, hx112_0, hx112_1, hx112_2, hx112_3⟩ := at_T36 HR0_3.out (ji5) p112 q112; cases e112; replace hx112_0 := (HB.out.cell (World.block_lt_of_cell? w _ hx112_0)).trans hx112_0; replace hx112_1 := (HB.out.cell (World.block_lt_of_cell? w _ hx112_1)).trans hx112_1; replace hx112_2 := (HB.out.cell (World.block_lt_of_cell? w _ hx112_2)).trans hx112_2; replace hx112_3 := (HB.out.cell (World.block_lt_of_cell? w _ hx112_3)).trans hx112_3; replace p112 := eq_true p112; replace q112 := eq_true q112))
          go_ret
          exact ⟨by first | rfl | (simp [errW_none, errW_some] <;> rfl) | (simp only [← hji5]; first | rfl | (simp [errW_none, errW_some] <;> rfl)) | (simp [*, errW_none, errW_some] <;> rfl), by repeat (first | (with_reducible first | exact HB.out | apply below_alloc | apply pw_below_drewN | apply below_drew1 | refine below_set ?_ GE111.out) | exact HB.out)⟩
        · rw [if_neg c8] at H
          have c8b0 : (((rd_T36 l0_3 (ji5)).f0) == 29) = false := beq_eq_false_iff_ne.mpr c8
          have c8b1 : (((rd_T36 l0_3 (ji5)).f0) != 29) = true := bne_iff_ne.mpr c8
          by_cases c11 : ((rd_T36 l0_3 (ji5)).f0) = 33
          · rw [if_pos c11] at H
            have c11b0 : (((rd_T36 l0_3 (ji5)).f0) == 33) = true := beq_iff_eq.mpr c11
            have c11b1 : (((rd_T36 l0_3 (ji5)).f0) != 33) = false := bne_eq_false_iff_eq.mpr c11
            clear c11
            obtain rfl := Option.some.inj H
            go_enter Tryd.func66, Tryd.ntmps66
            go_wp2_with (first | ((with_reducible refine gate_dst (N := 1) rfl ?_); refine box_event ?hg (N := 1) ?hd (cs := #[.int .i64 a0_0, .int .i64 a0_1, .slice A0_2 l0_2.length c0_2, .slice A0_3 l0_3.length c0_3, .slice A0_4 l0_4.length c0_4, .slice A0_5 l0_5.length c0_5]) (t := 27) ?hr ?_; (case hd => rfl); (case hg => rfl); (case hr => first | (go_simp; done) | (go_simp; rfl)); intro gb111 hg w12 hbox hb; have n0_ := Aside0.mk (below_step (by repeat (first | (with_reducible first | exact HB.out | apply below_alloc | apply pw_below_drewN | apply below_drew1) | exact HB.out)) hb); have n1_ := Aside0.mk (hbox); have n2_ := Aside0.mk ((by rw [hg]; exact (below_size (by repeat (first | (with_reducible first | exact HB.out | apply below_alloc | apply pw_below_drewN | apply below_drew1) | exact HB.out))) : w.heap.size ≤ gb111)); have n3_ := Aside0.mk ((by rw [hg]; exact (below_size (by repeat (first | (with_reducible first | exact HB.out | apply below_alloc | apply pw_below_drewN | apply below_drew1) | exact HB.out))) : w.heap.size ≤ gb111)); clear HB; have HB := n0_; have BK111 := n1_; have GW111 := n2_; have GE111 := n3_; clear n0_ n1_ n2_ n3_; clear hb hbox hg; have hcz13_0 : w12.cell? ⟨gb111, 0, none⟩ = some (.int .i64 a0_0) := (blk_cell BK111.out 0).trans rfl; have hcz13_1 : w12.cell? ⟨gb111, 1, none⟩ = some (.int .i64 a0_1) := (blk_cell BK111.out 1).trans rfl; have hcz13_2 : w12.cell? ⟨gb111, 2, none⟩ = some (.slice A0_2 l0_2.length c0_2) := (blk_cell BK111.out 2).trans rfl; have hcz13_3 : w12.cell? ⟨gb111, 3, none⟩ = some (.slice A0_3 l0_3.length c0_3) := (blk_cell BK111.out 3).trans rfl; have hcz13_4 : w12.cell? ⟨gb111, 4, none⟩ = some (.slice A0_4 l0_4.length c0_4) := (blk_cell BK111.out 4).trans rfl; have hcz13_5 : w12.cell? ⟨gb111, 5, none⟩ = some (.slice A0_5 l0_5.length c0_5) := (blk_cell BK111.out 5).trans rfl; have hfz13_0 := blk_frozen BK111.out 0; have hfz13_1 := blk_frozen BK111.out 1; have hfz13_2 := blk_frozen BK111.out 2; have hfz13_3 := blk_frozen BK111.out 3; have hfz13_4 := blk_frozen BK111.out 4; have hfz13_5 := blk_frozen BK111.out 5; have p112 : 0 ≤ ((ji5) : Int) := of_decide_eq_true (by first | (with_reducible assumption) | assumption); have q112 : (ji5) < (l0_3.length : Int) := of_decide_eq_true (by first | (with_reducible assumption) | assumption); obtain ⟨ad112, e112, hx112_0, hx112_1, hx112_2, hx112_3⟩ := at_T36 HR0_3.out (ji5) p112 q112; cases e112; replace hx112_0 := (HB.out.cell (World.block_lt_of_cell? w _ hx112_0)).trans hx112_0; replace hx112_1 := (HB.out.cell (World.block_lt_of_cell? w _ hx112_1)).trans hx112_1; replace hx112_2 := (HB.out.cell (World.block_lt_of_cell? w _ hx112_2)).trans hx112_2; replace hx112_3 := (HB.out.cell (World.block_lt_of_cell? w _ hx112_3)).trans hx112_3; replace p112 := eq_true p112; replace q112 := eq_true q112))
            go_ret
            exact ⟨by first | rfl | (simp [errW_none, errW_some] <;> rfl) | (simp only [← hji5]; first | rfl | (simp [errW_none, errW_some] <;> rfl)) | (simp [*, errW_none, errW_some] <;> rfl), by repeat (first | (with_reducible first | exact HB.out | apply below_alloc | apply pw_below_drewN | apply below_drew1 | refine below_set ?_ GE111.out) | exact HB.out)⟩
          · rw [if_neg c11] at H
            have c11b0 : (((rd_T36 l0_3 (ji5)).f0) == 33) = false := beq_eq_false_iff_ne.mpr c11
            have c11b1 : (((rd_T36 l0_3 (ji5)).f0) != 33) = true := bne_iff_ne.mpr c11
            by_cases c14 : ((rd_T36 l0_3 (ji5)).f0) = 34
            · rw [if_pos c14] at H
              have c14b0 : (((rd_T36 l0_3 (ji5)).f0) == 34) = true := beq_iff_eq.mpr c14
              have c14b1 : (((rd_T36 l0_3 (ji5)).f0) != 34) = false := bne_eq_false_iff_eq.mpr c14
              clear c14
              obtain rfl := Option.some.inj H
              go_enter Tryd.func66, Tryd.ntmps66
              go_wp2_with (first | ((with_reducible refine gate_dst (N := 1) rfl ?_); refine box_event ?hg (N := 1) ?hd (cs := #[.int .i64 a0_0, .int .i64 a0_1, .slice A0_2 l0_2.length c0_2, .slice A0_3 l0_3.length c0_3, .slice A0_4 l0_4.length c0_4, .slice A0_5 l0_5.length c0_5]) (t := 27) ?hr ?_; (case hd => rfl); (case hg => rfl); (case hr => first | (go_simp; done) | (go_simp; rfl)); intro gb111 hg w15 hbox hb; have n0_ := Aside0.mk (below_step (by repeat (first | (with_reducible first | exact HB.out | apply below_alloc | apply pw_below_drewN | apply below_drew1) | exact HB.out)) hb); have n1_ := Aside0.mk (hbox); have n2_ := Aside0.mk ((by rw [hg]; exact (below_size (by repeat (first | (with_reducible first | exact HB.out | apply below_alloc | apply pw_below_drewN | apply below_drew1) | exact HB.out))) : w.heap.size ≤ gb111)); have n3_ := Aside0.mk ((by rw [hg]; exact (below_size (by repeat (first | (with_reducible first | exact HB.out | apply below_alloc | apply pw_below_drewN | apply below_drew1) | exact HB.out))) : w.heap.size ≤ gb111)); clear HB; have HB := n0_; have BK111 := n1_; have GW111 := n2_; have GE111 := n3_; clear n0_ n1_ n2_ n3_; clear hb hbox hg; have hcz16_0 : w15.cell? ⟨gb111, 0, none⟩ = some (.int .i64 a0_0) := (blk_cell BK111.out 0).trans rfl; have hcz16_1 : w15.cell? ⟨gb111, 1, none⟩ = some (.int .i64 a0_1) := (blk_cell BK111.out 1).trans rfl; have hcz16_2 : w15.cell? ⟨gb111, 2, none⟩ = some (.slice A0_2 l0_2.length c0_2) := (blk_cell BK111.out 2).trans rfl; have hcz16_3 : w15.cell? ⟨gb111, 3, none⟩ = some (.slice A0_3 l0_3.length c0_3) := (blk_cell BK111.out 3).trans rfl; have hcz16_4 : w15.cell? ⟨gb111, 4, none⟩ = some (.slice A0_4 l0_4.length c0_4) := (blk_cell BK111.out 4).trans rfl; have hcz16_5 : w15.cell? ⟨gb111, 5, none⟩ = some (.slice A0_5 l0_5.length c0_5) := (blk_cell BK111.out 5).trans rfl; have hfz16_0 := blk_frozen BK111.out 0; have hfz16_1 := blk_frozen BK111.out 1; have hfz16_2 := blk_frozen BK111.out 2; have hfz16_3 := blk_frozen BK111.out 3; have hfz16_4 := blk_frozen BK111.out 4; have hfz16_5 := blk_frozen BK111.out 5; have p112 : 0 ≤ ((ji5) : Int) := of_decide_eq_true (by first | (with_reducible assumption) | assumption); have q112 : (ji5) < (l0_3.length : Int) := of_decide_eq_true (by first | (with_reducible assumption) | assumption); obtain ⟨ad112, e112, hx112_0, hx112_1, hx112_2, hx112_3⟩ := at_T36 HR0_3.out (ji5) p112 q112; cases e112; replace hx112_0 := (HB.out.cell (World.block_lt_of_cell? w _ hx112_0)).trans hx112_0; replace hx112_1 := (HB.out.cell (World.block_lt_of_cell? w _ hx112_1)).trans hx112_1; replace hx112_2 := (HB.out.cell (World.block_lt_of_cell? w _ hx112_2)).trans hx112_2; replace hx112_3 := (HB.out.cell (World.block_lt_of_cell? w _ hx112_3)).trans hx112_3; replace p112 := eq_true p112; replace q112 := eq_true q112))
              go_ret
              exact ⟨by first | rfl | (simp [errW_none, errW_some] <;> rfl) | (simp only [← hji5]; first | rfl | (simp [errW_none, errW_some] <;> rfl)) | (simp [*, errW_none, errW_some] <;> rfl), by repeat (first | (with_reducible first | exact HB.out | apply below_alloc | apply pw_below_drewN | apply below_drew1 | refine below_set ?_ GE111.out) | exact HB.out)⟩
            · rw [if_neg c14] at H
              have c14b0 : (((rd_T36 l0_3 (ji5)).f0) == 34) = false := beq_eq_false_iff_ne.mpr c14
              have c14b1 : (((rd_T36 l0_3 (ji5)).f0) != 34) = true := bne_iff_ne.mpr c14
              obtain rfl := Option.some.inj H
              go_enter Tryd.func66, Tryd.ntmps66
              go_wp2_with (first | ((with_reducible refine gate_dst (N := 1) rfl ?_); refine box_event ?hg (N := 1) ?hd (cs := #[.int .i64 a0_0, .int .i64 a0_1, .slice A0_2 l0_2.length c0_2, .slice A0_3 l0_3.length c0_3, .slice A0_4 l0_4.length c0_4, .slice A0_5 l0_5.length c0_5]) (t := 27) ?hr ?_; (case hd => rfl); (case hg => rfl); (case hr => first | (go_simp; done) | (go_simp; rfl)); intro gb111 hg w17 hbox hb; have n0_ := Aside0.mk (below_step (by repeat (first | (with_reducible first | exact HB.out | apply below_alloc | apply pw_below_drewN | apply below_drew1) | exact HB.out)) hb); have n1_ := Aside0.mk (hbox); have n2_ := Aside0.mk ((by rw [hg]; exact (below_size (by repeat (first | (with_reducible first | exact HB.out | apply below_alloc | apply pw_below_drewN | apply below_drew1) | exact HB.out))) : w.heap.size ≤ gb111)); have n3_ := Aside0.mk ((by rw [hg]; exact (below_size (by repeat (first | (with_reducible first | exact HB.out | apply below_alloc | apply pw_below_drewN | apply below_drew1) | exact HB.out))) : w.heap.size ≤ gb111)); clear HB; have HB := n0_; have BK111 := n1_; have GW111 := n2_; have GE111 := n3_; clear n0_ n1_ n2_ n3_; clear hb hbox hg; have hcz18_0 : w17.cell? ⟨gb111, 0, none⟩ = some (.int .i64 a0_0) := (blk_cell BK111.out 0).trans rfl; have hcz18_1 : w17.cell? ⟨gb111, 1, none⟩ = some (.int .i64 a0_1) := (blk_cell BK111.out 1).trans rfl; have hcz18_2 : w17.cell? ⟨gb111, 2, none⟩ = some (.slice A0_2 l0_2.length c0_2) := (blk_cell BK111.out 2).trans rfl; have hcz18_3 : w17.cell? ⟨gb111, 3, none⟩ = some (.slice A0_3 l0_3.length c0_3) := (blk_cell BK111.out 3).trans rfl; have hcz18_4 : w17.cell? ⟨gb111, 4, none⟩ = some (.slice A0_4 l0_4.length c0_4) := (blk_cell BK111.out 4).trans rfl; have hcz18_5 : w17.cell? ⟨gb111, 5, none⟩ = some (.slice A0_5 l0_5.length c0_5) := (blk_cell BK111.out 5).trans rfl; have hfz18_0 := blk_frozen BK111.out 0; have hfz18_1 := blk_frozen BK111.out 1; have hfz18_2 := blk_frozen BK111.out 2; have hfz18_3 := blk_frozen BK111.out 3; have hfz18_4 := blk_frozen BK111.out 4; have hfz18_5 := blk_frozen BK111.out 5; have p112 : 0 ≤ ((ji5) : Int) := of_decide_eq_true (by first | (with_reducible assumption) | assumption); have q112 : (ji5) < (l0_3.length : Int) := of_decide_eq_true (by first | (with_reducible assumption) | assumption); obtain ⟨ad112, e112, hx112_0, hx112_1, hx112_2, hx112_3⟩ := at_T36 HR0_3.out (ji5) p112 q112; cases e112; replace hx112_0 := (HB.out.cell (World.block_lt_of_cell? w _ hx112_0)).trans hx112_0; replace hx112_1 := (HB.out.cell (World.block_lt_of_cell? w _ hx112_1)).trans hx112_1; replace hx112_2 := (HB.out.cell (World.block_lt_of_cell? w _ hx112_2)).trans hx112_2; replace hx112_3 := (HB.out.cell (World.block_lt_of_cell? w _ hx112_3)).trans hx112_3; replace p112 := eq_true p112; replace q112 := eq_true q112))
              go_ret
              exact ⟨by first | rfl | (simp [errW_none, errW_some] <;> rfl) | (simp only [← hji5]; first | rfl | (simp [errW_none, errW_some] <;> rfl)) | (simp [*, errW_none, errW_some] <;> rfl), by repeat (first | (with_reducible first | exact HB.out | apply below_alloc | apply pw_below_drewN | apply below_drew1 | refine below_set ?_ GE111.out) | exact HB.out)⟩
      · rw [if_neg c7] at H
        exact absurd H (by simp)
    · rw [if_neg c6] at H
      exact absurd H (by simp)
def minstrelref13_Is.f (a0 : Int) : Option (Bool) := if a0 ≥ 0 then (some (decide (a0 ≤ 37))) else (some false)
set_option maxHeartbeats 8000000 in
set_option maxRecDepth 100000 in
theorem minstrelref13_Is.calls (a0 : Int) (r : Bool) (w : World) (h : minstrelref13_Is.f a0 = some r) :
    Calls Tryd.prog 34 #[.int .i64 a0] w fun e w' => e = .returned (.bool r) ∧ Drawn0 w w' := by
  have H : (if a0 ≥ 0 then (some (decide (a0 ≤ 37))) else (some false)) = some r := h
  clear h
  by_cases c2 : a0 ≥ 0
  · rw [if_pos c2] at H
    have c2b0 : decide (0 ≤ a0) = true := decide_eq_true c2
    clear c2
    obtain rfl := Option.some.inj H
    go_enter Tryd.func34, Tryd.ntmps34
    go_wp2
    go_ret
    exact ⟨by first | rfl | (simp; done) | (simp [*]; done), by repeat (first | exact Drawn0.refl _ | apply Drawn0.step)⟩
  · rw [if_neg c2] at H
    have c2b0 : decide (0 ≤ a0) = false := decide_eq_false c2
    clear c2
    obtain rfl := Option.some.inj H
    go_enter Tryd.func34, Tryd.ntmps34
    go_wp2
    go_ret
    exact ⟨by first | rfl | (simp; done) | (simp [*]; done), by repeat (first | exact Drawn0.refl _ | apply Drawn0.step)⟩
def minstrelref13_Name.f (a0 : Int) : Option (ByteArray) := (minstrelref13_Is.f a0).bind fun t123 => (if t123 = true then ((some (([(⟨#[99, 111, 110, 115, 116]⟩ : ByteArray), (⟨#[109, 111, 118, 101]⟩ : ByteArray), (⟨#[115, 104, 105, 102, 116]⟩ : ByteArray), (⟨#[99, 108, 101, 97, 114]⟩ : ByteArray), (⟨#[110, 101, 119, 98, 111, 120]⟩ : ByteArray), (⟨#[103, 101, 116, 98, 111, 120]⟩ : ByteArray), (⟨#[115, 101, 116, 98, 111, 120]⟩ : ByteArray), (⟨#[103, 101, 116, 117, 112]⟩ : ByteArray), (⟨#[115, 101, 116, 117, 112]⟩ : ByteArray), (⟨#[103, 101, 116, 103, 108, 111, 98, 97, 108]⟩ : ByteArray), (⟨#[115, 101, 116, 103, 108, 111, 98, 97, 108]⟩ : ByteArray), (⟨#[105, 110, 100, 101, 120]⟩ : ByteArray), (⟨#[115, 101, 116, 105, 110, 100, 101, 120]⟩ : ByteArray), (⟨#[109, 97, 107, 101]⟩ : ByteArray), (⟨#[110, 111, 116]⟩ : ByteArray), (⟨#[110, 101, 103]⟩ : ByteArray), (⟨#[108, 101, 110]⟩ : ByteArray), (⟨#[97, 100, 100]⟩ : ByteArray), (⟨#[115, 117, 98]⟩ : ByteArray), (⟨#[109, 117, 108]⟩ : ByteArray), (⟨#[100, 105, 118]⟩ : ByteArray), (⟨#[109, 111, 100]⟩ : ByteArray), (⟨#[99, 111, 110, 99, 97, 116]⟩ : ByteArray), (⟨#[101, 113]⟩ : ByteArray), (⟨#[110, 101]⟩ : ByteArray), (⟨#[108, 116]⟩ : ByteArray), (⟨#[108, 101]⟩ : ByteArray), (⟨#[103, 116]⟩ : ByteArray), (⟨#[103, 101]⟩ : ByteArray), (⟨#[106, 117, 109, 112]⟩ : ByteArray), (⟨#[106, 117, 109, 112, 105, 102]⟩ : ByteArray), (⟨#[106, 117, 109, 112, 110, 111, 116]⟩ : ByteArray), (⟨#[99, 97, 108, 108]⟩ : ByteArray), (⟨#[114, 101, 116, 117, 114, 110]⟩ : ByteArray), (⟨#[101, 110, 100]⟩ : ByteArray), (⟨#[99, 108, 111, 115, 117, 114, 101]⟩ : ByteArray), (⟨#[102, 111, 114, 99, 104, 101, 99, 107]⟩ : ByteArray), (⟨#[102, 111, 114, 115, 116, 101, 112]⟩ : ByteArray)] : List ByteArray) : List ByteArray)).bind fun y124 => (if 0 ≤ a0 then (if a0 < (y124.length : Int) then (some (rdOf ByteArray.empty y124 a0)) else (none)) else (none))) else (some (⟨#[110, 111, 110, 101]⟩ : ByteArray)))
set_option maxHeartbeats 8000000 in
set_option maxRecDepth 100000 in
theorem minstrelref13_Name.calls (a0 : Int) (r : ByteArray) (w : World) (h : minstrelref13_Name.f a0 = some r) :
    Calls Tryd.prog 18 #[.int .i64 a0] w fun e w' => e = .returned (.string r) ∧ Below w.heap.size w w' := by
  have HB := Aside0.mk (Below.refl w.heap.size w)
  have H : ((minstrelref13_Is.f a0).bind fun t123 => (if t123 = true then ((some (([(⟨#[99, 111, 110, 115, 116]⟩ : ByteArray), (⟨#[109, 111, 118, 101]⟩ : ByteArray), (⟨#[115, 104, 105, 102, 116]⟩ : ByteArray), (⟨#[99, 108, 101, 97, 114]⟩ : ByteArray), (⟨#[110, 101, 119, 98, 111, 120]⟩ : ByteArray), (⟨#[103, 101, 116, 98, 111, 120]⟩ : ByteArray), (⟨#[115, 101, 116, 98, 111, 120]⟩ : ByteArray), (⟨#[103, 101, 116, 117, 112]⟩ : ByteArray), (⟨#[115, 101, 116, 117, 112]⟩ : ByteArray), (⟨#[103, 101, 116, 103, 108, 111, 98, 97, 108]⟩ : ByteArray), (⟨#[115, 101, 116, 103, 108, 111, 98, 97, 108]⟩ : ByteArray), (⟨#[105, 110, 100, 101, 120]⟩ : ByteArray), (⟨#[115, 101, 116, 105, 110, 100, 101, 120]⟩ : ByteArray), (⟨#[109, 97, 107, 101]⟩ : ByteArray), (⟨#[110, 111, 116]⟩ : ByteArray), (⟨#[110, 101, 103]⟩ : ByteArray), (⟨#[108, 101, 110]⟩ : ByteArray), (⟨#[97, 100, 100]⟩ : ByteArray), (⟨#[115, 117, 98]⟩ : ByteArray), (⟨#[109, 117, 108]⟩ : ByteArray), (⟨#[100, 105, 118]⟩ : ByteArray), (⟨#[109, 111, 100]⟩ : ByteArray), (⟨#[99, 111, 110, 99, 97, 116]⟩ : ByteArray), (⟨#[101, 113]⟩ : ByteArray), (⟨#[110, 101]⟩ : ByteArray), (⟨#[108, 116]⟩ : ByteArray), (⟨#[108, 101]⟩ : ByteArray), (⟨#[103, 116]⟩ : ByteArray), (⟨#[103, 101]⟩ : ByteArray), (⟨#[106, 117, 109, 112]⟩ : ByteArray), (⟨#[106, 117, 109, 112, 105, 102]⟩ : ByteArray), (⟨#[106, 117, 109, 112, 110, 111, 116]⟩ : ByteArray), (⟨#[99, 97, 108, 108]⟩ : ByteArray), (⟨#[114, 101, 116, 117, 114, 110]⟩ : ByteArray), (⟨#[101, 110, 100]⟩ : ByteArray), (⟨#[99, 108, 111, 115, 117, 114, 101]⟩ : ByteArray), (⟨#[102, 111, 114, 99, 104, 101, 99, 107]⟩ : ByteArray), (⟨#[102, 111, 114, 115, 116, 101, 112]⟩ : ByteArray)] : List ByteArray) : List ByteArray)).bind fun y124 => (if 0 ≤ a0 then (if a0 < (y124.length : Int) then (some (rdOf ByteArray.empty y124 a0)) else (none)) else (none))) else (some (⟨#[110, 111, 110, 101]⟩ : ByteArray)))) = some r := h
  clear h
  replace H := Option.bind_eq_some_iff.mp H
  obtain ⟨t123, A20, H⟩ := H
  replace H : (if t123 = true then ((some (([(⟨#[99, 111, 110, 115, 116]⟩ : ByteArray), (⟨#[109, 111, 118, 101]⟩ : ByteArray), (⟨#[115, 104, 105, 102, 116]⟩ : ByteArray), (⟨#[99, 108, 101, 97, 114]⟩ : ByteArray), (⟨#[110, 101, 119, 98, 111, 120]⟩ : ByteArray), (⟨#[103, 101, 116, 98, 111, 120]⟩ : ByteArray), (⟨#[115, 101, 116, 98, 111, 120]⟩ : ByteArray), (⟨#[103, 101, 116, 117, 112]⟩ : ByteArray), (⟨#[115, 101, 116, 117, 112]⟩ : ByteArray), (⟨#[103, 101, 116, 103, 108, 111, 98, 97, 108]⟩ : ByteArray), (⟨#[115, 101, 116, 103, 108, 111, 98, 97, 108]⟩ : ByteArray), (⟨#[105, 110, 100, 101, 120]⟩ : ByteArray), (⟨#[115, 101, 116, 105, 110, 100, 101, 120]⟩ : ByteArray), (⟨#[109, 97, 107, 101]⟩ : ByteArray), (⟨#[110, 111, 116]⟩ : ByteArray), (⟨#[110, 101, 103]⟩ : ByteArray), (⟨#[108, 101, 110]⟩ : ByteArray), (⟨#[97, 100, 100]⟩ : ByteArray), (⟨#[115, 117, 98]⟩ : ByteArray), (⟨#[109, 117, 108]⟩ : ByteArray), (⟨#[100, 105, 118]⟩ : ByteArray), (⟨#[109, 111, 100]⟩ : ByteArray), (⟨#[99, 111, 110, 99, 97, 116]⟩ : ByteArray), (⟨#[101, 113]⟩ : ByteArray), (⟨#[110, 101]⟩ : ByteArray), (⟨#[108, 116]⟩ : ByteArray), (⟨#[108, 101]⟩ : ByteArray), (⟨#[103, 116]⟩ : ByteArray), (⟨#[103, 101]⟩ : ByteArray), (⟨#[106, 117, 109, 112]⟩ : ByteArray), (⟨#[106, 117, 109, 112, 105, 102]⟩ : ByteArray), (⟨#[106, 117, 109, 112, 110, 111, 116]⟩ : ByteArray), (⟨#[99, 97, 108, 108]⟩ : ByteArray), (⟨#[114, 101, 116, 117, 114, 110]⟩ : ByteArray), (⟨#[101, 110, 100]⟩ : ByteArray), (⟨#[99, 108, 111, 115, 117, 114, 101]⟩ : ByteArray), (⟨#[102, 111, 114, 99, 104, 101, 99, 107]⟩ : ByteArray), (⟨#[102, 111, 114, 115, 116, 101, 112]⟩ : ByteArray)] : List ByteArray) : List ByteArray)).bind fun y124 => (if 0 ≤ a0 then (if a0 < (y124.length : Int) then (some (rdOf ByteArray.empty y124 a0)) else (none)) else (none))) else (some (⟨#[110, 111, 110, 101]⟩ : ByteArray))) = some r := H
  have A2 := Aside0.mk A20
  clear A20
  by_cases c3 : t123 = true
  · subst c3
    have H1 : ((some (([(⟨#[99, 111, 110, 115, 116]⟩ : ByteArray), (⟨#[109, 111, 118, 101]⟩ : ByteArray), (⟨#[115, 104, 105, 102, 116]⟩ : ByteArray), (⟨#[99, 108, 101, 97, 114]⟩ : ByteArray), (⟨#[110, 101, 119, 98, 111, 120]⟩ : ByteArray), (⟨#[103, 101, 116, 98, 111, 120]⟩ : ByteArray), (⟨#[115, 101, 116, 98, 111, 120]⟩ : ByteArray), (⟨#[103, 101, 116, 117, 112]⟩ : ByteArray), (⟨#[115, 101, 116, 117, 112]⟩ : ByteArray), (⟨#[103, 101, 116, 103, 108, 111, 98, 97, 108]⟩ : ByteArray), (⟨#[115, 101, 116, 103, 108, 111, 98, 97, 108]⟩ : ByteArray), (⟨#[105, 110, 100, 101, 120]⟩ : ByteArray), (⟨#[115, 101, 116, 105, 110, 100, 101, 120]⟩ : ByteArray), (⟨#[109, 97, 107, 101]⟩ : ByteArray), (⟨#[110, 111, 116]⟩ : ByteArray), (⟨#[110, 101, 103]⟩ : ByteArray), (⟨#[108, 101, 110]⟩ : ByteArray), (⟨#[97, 100, 100]⟩ : ByteArray), (⟨#[115, 117, 98]⟩ : ByteArray), (⟨#[109, 117, 108]⟩ : ByteArray), (⟨#[100, 105, 118]⟩ : ByteArray), (⟨#[109, 111, 100]⟩ : ByteArray), (⟨#[99, 111, 110, 99, 97, 116]⟩ : ByteArray), (⟨#[101, 113]⟩ : ByteArray), (⟨#[110, 101]⟩ : ByteArray), (⟨#[108, 116]⟩ : ByteArray), (⟨#[108, 101]⟩ : ByteArray), (⟨#[103, 116]⟩ : ByteArray), (⟨#[103, 101]⟩ : ByteArray), (⟨#[106, 117, 109, 112]⟩ : ByteArray), (⟨#[106, 117, 109, 112, 105, 102]⟩ : ByteArray), (⟨#[106, 117, 109, 112, 110, 111, 116]⟩ : ByteArray), (⟨#[99, 97, 108, 108]⟩ : ByteArray), (⟨#[114, 101, 116, 117, 114, 110]⟩ : ByteArray), (⟨#[101, 110, 100]⟩ : ByteArray), (⟨#[99, 108, 111, 115, 117, 114, 101]⟩ : ByteArray), (⟨#[102, 111, 114, 99, 104, 101, 99, 107]⟩ : ByteArray), (⟨#[102, 111, 114, 115, 116, 101, 112]⟩ : ByteArray)] : List ByteArray) : List ByteArray)).bind fun y124 => (if 0 ≤ a0 then (if a0 < (y124.length : Int) then (some (rdOf ByteArray.empty y124 a0)) else (none)) else (none))) = some r := by rw [if_pos rfl] at H; exact H
    clear H
    have H := H1
    clear H1
    obtain ⟨y124, hy124⟩ : ∃ y_ : List ByteArray, y_ = (([(⟨#[99, 111, 110, 115, 116]⟩ : ByteArray), (⟨#[109, 111, 118, 101]⟩ : ByteArray), (⟨#[115, 104, 105, 102, 116]⟩ : ByteArray), (⟨#[99, 108, 101, 97, 114]⟩ : ByteArray), (⟨#[110, 101, 119, 98, 111, 120]⟩ : ByteArray), (⟨#[103, 101, 116, 98, 111, 120]⟩ : ByteArray), (⟨#[115, 101, 116, 98, 111, 120]⟩ : ByteArray), (⟨#[103, 101, 116, 117, 112]⟩ : ByteArray), (⟨#[115, 101, 116, 117, 112]⟩ : ByteArray), (⟨#[103, 101, 116, 103, 108, 111, 98, 97, 108]⟩ : ByteArray), (⟨#[115, 101, 116, 103, 108, 111, 98, 97, 108]⟩ : ByteArray), (⟨#[105, 110, 100, 101, 120]⟩ : ByteArray), (⟨#[115, 101, 116, 105, 110, 100, 101, 120]⟩ : ByteArray), (⟨#[109, 97, 107, 101]⟩ : ByteArray), (⟨#[110, 111, 116]⟩ : ByteArray), (⟨#[110, 101, 103]⟩ : ByteArray), (⟨#[108, 101, 110]⟩ : ByteArray), (⟨#[97, 100, 100]⟩ : ByteArray), (⟨#[115, 117, 98]⟩ : ByteArray), (⟨#[109, 117, 108]⟩ : ByteArray), (⟨#[100, 105, 118]⟩ : ByteArray), (⟨#[109, 111, 100]⟩ : ByteArray), (⟨#[99, 111, 110, 99, 97, 116]⟩ : ByteArray), (⟨#[101, 113]⟩ : ByteArray), (⟨#[110, 101]⟩ : ByteArray), (⟨#[108, 116]⟩ : ByteArray), (⟨#[108, 101]⟩ : ByteArray), (⟨#[103, 116]⟩ : ByteArray), (⟨#[103, 101]⟩ : ByteArray), (⟨#[106, 117, 109, 112]⟩ : ByteArray), (⟨#[106, 117, 109, 112, 105, 102]⟩ : ByteArray), (⟨#[106, 117, 109, 112, 110, 111, 116]⟩ : ByteArray), (⟨#[99, 97, 108, 108]⟩ : ByteArray), (⟨#[114, 101, 116, 117, 114, 110]⟩ : ByteArray), (⟨#[101, 110, 100]⟩ : ByteArray), (⟨#[99, 108, 111, 115, 117, 114, 101]⟩ : ByteArray), (⟨#[102, 111, 114, 99, 104, 101, 99, 107]⟩ : ByteArray), (⟨#[102, 111, 114, 115, 116, 101, 112]⟩ : ByteArray)] : List ByteArray)) := ⟨_, rfl⟩
    replace H : (if 0 ≤ a0 then (if a0 < (y124.length : Int) then (some (rdOf ByteArray.empty y124 a0)) else (none)) else (none)) = some r := by first | (rw [hy124]; with_reducible exact H) | (have H2_ := (Option.bind_some _ _).symm.trans H; rw [hy124]; with_reducible exact H2_) | (have H2_ := (Option.bind_some _ _).symm.trans H; with_reducible exact H2_) | with_reducible exact H | (rw [hy124]; exact H) | exact H
    have Ny124 := Aside0.mk hy124
    clear hy124
    by_cases c4 : 0 ≤ a0
    · rw [if_pos c4] at H
      have c4b0 : decide (0 ≤ a0) = true := decide_eq_true c4
      clear c4
      by_cases c5 : a0 < (y124.length : Int)
      · rw [if_pos c5] at H
        have c5b0 : decide (a0 < (y124.length : Int)) = true := decide_eq_true c5
        clear c5
        obtain rfl := Option.some.inj H
        go_enter Tryd.func18, Tryd.ntmps18
        go_wp2_with (first | ((with_reducible refine gate_callee (f := 34) rfl ?_); refine goesL_ (some 4) rfl rfl Tryd.func34 (by kernel_rfl) rfl #[.int .i64 a0] rfl (by (try simp only [List.map_toArray, List.map_cons, List.map_nil]); first | done | rfl | (simp only [List.length_drop, List.length_take]; rfl)) ?_; (with_reducible refine (minstrelref13_Is.calls a0 true _ A2.out).mono ?_); rintro e w' ⟨rfl, ⟨nd, rfl⟩⟩; refine ⟨_, rfl, ?_⟩) | ((with_reducible refine gate_dst (N := 6) rfl ?_); refine Kd.R_lit Kd.string _ 9 ?hg (N := 6) ?hd (xs := ([(⟨#[99, 111, 110, 115, 116]⟩ : ByteArray), (⟨#[109, 111, 118, 101]⟩ : ByteArray), (⟨#[115, 104, 105, 102, 116]⟩ : ByteArray), (⟨#[99, 108, 101, 97, 114]⟩ : ByteArray), (⟨#[110, 101, 119, 98, 111, 120]⟩ : ByteArray), (⟨#[103, 101, 116, 98, 111, 120]⟩ : ByteArray), (⟨#[115, 101, 116, 98, 111, 120]⟩ : ByteArray), (⟨#[103, 101, 116, 117, 112]⟩ : ByteArray), (⟨#[115, 101, 116, 117, 112]⟩ : ByteArray), (⟨#[103, 101, 116, 103, 108, 111, 98, 97, 108]⟩ : ByteArray), (⟨#[115, 101, 116, 103, 108, 111, 98, 97, 108]⟩ : ByteArray), (⟨#[105, 110, 100, 101, 120]⟩ : ByteArray), (⟨#[115, 101, 116, 105, 110, 100, 101, 120]⟩ : ByteArray), (⟨#[109, 97, 107, 101]⟩ : ByteArray), (⟨#[110, 111, 116]⟩ : ByteArray), (⟨#[110, 101, 103]⟩ : ByteArray), (⟨#[108, 101, 110]⟩ : ByteArray), (⟨#[97, 100, 100]⟩ : ByteArray), (⟨#[115, 117, 98]⟩ : ByteArray), (⟨#[109, 117, 108]⟩ : ByteArray), (⟨#[100, 105, 118]⟩ : ByteArray), (⟨#[109, 111, 100]⟩ : ByteArray), (⟨#[99, 111, 110, 99, 97, 116]⟩ : ByteArray), (⟨#[101, 113]⟩ : ByteArray), (⟨#[110, 101]⟩ : ByteArray), (⟨#[108, 116]⟩ : ByteArray), (⟨#[108, 101]⟩ : ByteArray), (⟨#[103, 116]⟩ : ByteArray), (⟨#[103, 101]⟩ : ByteArray), (⟨#[106, 117, 109, 112]⟩ : ByteArray), (⟨#[106, 117, 109, 112, 105, 102]⟩ : ByteArray), (⟨#[106, 117, 109, 112, 110, 111, 116]⟩ : ByteArray), (⟨#[99, 97, 108, 108]⟩ : ByteArray), (⟨#[114, 101, 116, 117, 114, 110]⟩ : ByteArray), (⟨#[101, 110, 100]⟩ : ByteArray), (⟨#[99, 108, 111, 115, 117, 114, 101]⟩ : ByteArray), (⟨#[102, 111, 114, 99, 104, 101, 99, 107]⟩ : ByteArray), (⟨#[102, 111, 114, 115, 116, 101, 112]⟩ : ByteArray)] : List ByteArray)) (inner := [.string (⟨#[99, 111, 110, 115, 116]⟩ : ByteArray), .string (⟨#[109, 111, 118, 101]⟩ : ByteArray), .string (⟨#[115, 104, 105, 102, 116]⟩ : ByteArray), .string (⟨#[99, 108, 101, 97, 114]⟩ : ByteArray), .string (⟨#[110, 101, 119, 98, 111, 120]⟩ : ByteArray), .string (⟨#[103, 101, 116, 98, 111, 120]⟩ : ByteArray), .string (⟨#[115, 101, 116, 98, 111, 120]⟩ : ByteArray), .string (⟨#[103, 101, 116, 117, 112]⟩ : ByteArray), .string (⟨#[115, 101, 116, 117, 112]⟩ : ByteArray), .string (⟨#[103, 101, 116, 103, 108, 111, 98, 97, 108]⟩ : ByteArray), .string (⟨#[115, 101, 116, 103, 108, 111, 98, 97, 108]⟩ : ByteArray), .string (⟨#[105, 110, 100, 101, 120]⟩ : ByteArray), .string (⟨#[115, 101, 116, 105, 110, 100, 101, 120]⟩ : ByteArray), .string (⟨#[109, 97, 107, 101]⟩ : ByteArray), .string (⟨#[110, 111, 116]⟩ : ByteArray), .string (⟨#[110, 101, 103]⟩ : ByteArray), .string (⟨#[108, 101, 110]⟩ : ByteArray), .string (⟨#[97, 100, 100]⟩ : ByteArray), .string (⟨#[115, 117, 98]⟩ : ByteArray), .string (⟨#[109, 117, 108]⟩ : ByteArray), .string (⟨#[100, 105, 118]⟩ : ByteArray), .string (⟨#[109, 111, 100]⟩ : ByteArray), .string (⟨#[99, 111, 110, 99, 97, 116]⟩ : ByteArray), .string (⟨#[101, 113]⟩ : ByteArray), .string (⟨#[110, 101]⟩ : ByteArray), .string (⟨#[108, 116]⟩ : ByteArray), .string (⟨#[108, 101]⟩ : ByteArray), .string (⟨#[103, 116]⟩ : ByteArray), .string (⟨#[103, 101]⟩ : ByteArray), .string (⟨#[106, 117, 109, 112]⟩ : ByteArray), .string (⟨#[106, 117, 109, 112, 105, 102]⟩ : ByteArray), .string (⟨#[106, 117, 109, 112, 110, 111, 116]⟩ : ByteArray), .string (⟨#[99, 97, 108, 108]⟩ : ByteArray), .string (⟨#[114, 101, 116, 117, 114, 110]⟩ : ByteArray), .string (⟨#[101, 110, 100]⟩ : ByteArray), .string (⟨#[99, 108, 111, 115, 117, 114, 101]⟩ : ByteArray), .string (⟨#[102, 111, 114, 99, 104, 101, 99, 107]⟩ : ByteArray), .string (⟨#[102, 111, 114, 115, 116, 101, 112]⟩ : ByteArray)]) (ok := fun _ => True) (okp := fun _ => True) ?hr ?hp (fun _ hk => hk) trivial (Below.refl _ _) (Nat.le_refl _) (by simp) ?_; (case hd => rfl); (case hg => rfl); (case hr => first | (go_simp; done) | (go_simp; rfl)); (case hp => exact (Reps.one (show Kd.M Kd.string _ _ _ (⟨#[99, 111, 110, 115, 116]⟩ : ByteArray) [.string (⟨#[99, 111, 110, 115, 116]⟩ : ByteArray)] from rfl) (Reps.one (show Kd.M Kd.string _ _ _ (⟨#[109, 111, 118, 101]⟩ : ByteArray) [.string (⟨#[109, 111, 118, 101]⟩ : ByteArray)] from rfl) (Reps.one (show Kd.M Kd.string _ _ _ (⟨#[115, 104, 105, 102, 116]⟩ : ByteArray) [.string (⟨#[115, 104, 105, 102, 116]⟩ : ByteArray)] from rfl) (Reps.one (show Kd.M Kd.string _ _ _ (⟨#[99, 108, 101, 97, 114]⟩ : ByteArray) [.string (⟨#[99, 108, 101, 97, 114]⟩ : ByteArray)] from rfl) (Reps.one (show Kd.M Kd.string _ _ _ (⟨#[110, 101, 119, 98, 111, 120]⟩ : ByteArray) [.string (⟨#[110, 101, 119, 98, 111, 120]⟩ : ByteArray)] from rfl) (Reps.one (show Kd.M Kd.string _ _ _ (⟨#[103, 101, 116, 98, 111, 120]⟩ : ByteArray) [.string (⟨#[103, 101, 116, 98, 111, 120]⟩ : ByteArray)] from rfl) (Reps.one (show Kd.M Kd.string _ _ _ (⟨#[115, 101, 116, 98, 111, 120]⟩ : ByteArray) [.string (⟨#[115, 101, 116, 98, 111, 120]⟩ : ByteArray)] from rfl) (Reps.one (show Kd.M Kd.string _ _ _ (⟨#[103, 101, 116, 117, 112]⟩ : ByteArray) [.string (⟨#[103, 101, 116, 117, 112]⟩ : ByteArray)] from rfl) (Reps.one (show Kd.M Kd.string _ _ _ (⟨#[115, 101, 116, 117, 112]⟩ : ByteArray) [.string (⟨#[115, 101, 116, 117, 112]⟩ : ByteArray)] from rfl) (Reps.one (show Kd.M Kd.string _ _ _ (⟨#[103, 101, 116, 103, 108, 111, 98, 97, 108]⟩ : ByteArray) [.string (⟨#[103, 101, 116, 103, 108, 111, 98, 97, 108]⟩ : ByteArray)] from rfl) (Reps.one (show Kd.M Kd.string _ _ _ (⟨#[115, 101, 116, 103, 108, 111, 98, 97, 108]⟩ : ByteArray) [.string (⟨#[115, 101, 116, 103, 108, 111, 98, 97, 108]⟩ : ByteArray)] from rfl) (Reps.one (show Kd.M Kd.string _ _ _ (⟨#[105, 110, 100, 101, 120]⟩ : ByteArray) [.string (⟨#[105, 110, 100, 101, 120]⟩ : ByteArray)] from rfl) (Reps.one (show Kd.M Kd.string _ _ _ (⟨#[115, 101, 116, 105, 110, 100, 101, 120]⟩ : ByteArray) [.string (⟨#[115, 101, 116, 105, 110, 100, 101, 120]⟩ : ByteArray)] from rfl) (Reps.one (show Kd.M Kd.string _ _ _ (⟨#[109, 97, 107, 101]⟩ : ByteArray) [.string (⟨#[109, 97, 107, 101]⟩ : ByteArray)] from rfl) (Reps.one (show Kd.M Kd.string _ _ _ (⟨#[110, 111, 116]⟩ : ByteArray) [.string (⟨#[110, 111, 116]⟩ : ByteArray)] from rfl) (Reps.one (show Kd.M Kd.string _ _ _ (⟨#[110, 101, 103]⟩ : ByteArray) [.string (⟨#[110, 101, 103]⟩ : ByteArray)] from rfl) (Reps.one (show Kd.M Kd.string _ _ _ (⟨#[108, 101, 110]⟩ : ByteArray) [.string (⟨#[108, 101, 110]⟩ : ByteArray)] from rfl) (Reps.one (show Kd.M Kd.string _ _ _ (⟨#[97, 100, 100]⟩ : ByteArray) [.string (⟨#[97, 100, 100]⟩ : ByteArray)] from rfl) (Reps.one (show Kd.M Kd.string _ _ _ (⟨#[115, 117, 98]⟩ : ByteArray) [.string (⟨#[115, 117, 98]⟩ : ByteArray)] from rfl) (Reps.one (show Kd.M Kd.string _ _ _ (⟨#[109, 117, 108]⟩ : ByteArray) [.string (⟨#[109, 117, 108]⟩ : ByteArray)] from rfl) (Reps.one (show Kd.M Kd.string _ _ _ (⟨#[100, 105, 118]⟩ : ByteArray) [.string (⟨#[100, 105, 118]⟩ : ByteArray)] from rfl) (Reps.one (show Kd.M Kd.string _ _ _ (⟨#[109, 111, 100]⟩ : ByteArray) [.string (⟨#[109, 111, 100]⟩ : ByteArray)] from rfl) (Reps.one (show Kd.M Kd.string _ _ _ (⟨#[99, 111, 110, 99, 97, 116]⟩ : ByteArray) [.string (⟨#[99, 111, 110, 99, 97, 116]⟩ : ByteArray)] from rfl) (Reps.one (show Kd.M Kd.string _ _ _ (⟨#[101, 113]⟩ : ByteArray) [.string (⟨#[101, 113]⟩ : ByteArray)] from rfl) (Reps.one (show Kd.M Kd.string _ _ _ (⟨#[110, 101]⟩ : ByteArray) [.string (⟨#[110, 101]⟩ : ByteArray)] from rfl) (Reps.one (show Kd.M Kd.string _ _ _ (⟨#[108, 116]⟩ : ByteArray) [.string (⟨#[108, 116]⟩ : ByteArray)] from rfl) (Reps.one (show Kd.M Kd.string _ _ _ (⟨#[108, 101]⟩ : ByteArray) [.string (⟨#[108, 101]⟩ : ByteArray)] from rfl) (Reps.one (show Kd.M Kd.string _ _ _ (⟨#[103, 116]⟩ : ByteArray) [.string (⟨#[103, 116]⟩ : ByteArray)] from rfl) (Reps.one (show Kd.M Kd.string _ _ _ (⟨#[103, 101]⟩ : ByteArray) [.string (⟨#[103, 101]⟩ : ByteArray)] from rfl) (Reps.one (show Kd.M Kd.string _ _ _ (⟨#[106, 117, 109, 112]⟩ : ByteArray) [.string (⟨#[106, 117, 109, 112]⟩ : ByteArray)] from rfl) (Reps.one (show Kd.M Kd.string _ _ _ (⟨#[106, 117, 109, 112, 105, 102]⟩ : ByteArray) [.string (⟨#[106, 117, 109, 112, 105, 102]⟩ : ByteArray)] from rfl) (Reps.one (show Kd.M Kd.string _ _ _ (⟨#[106, 117, 109, 112, 110, 111, 116]⟩ : ByteArray) [.string (⟨#[106, 117, 109, 112, 110, 111, 116]⟩ : ByteArray)] from rfl) (Reps.one (show Kd.M Kd.string _ _ _ (⟨#[99, 97, 108, 108]⟩ : ByteArray) [.string (⟨#[99, 97, 108, 108]⟩ : ByteArray)] from rfl) (Reps.one (show Kd.M Kd.string _ _ _ (⟨#[114, 101, 116, 117, 114, 110]⟩ : ByteArray) [.string (⟨#[114, 101, 116, 117, 114, 110]⟩ : ByteArray)] from rfl) (Reps.one (show Kd.M Kd.string _ _ _ (⟨#[101, 110, 100]⟩ : ByteArray) [.string (⟨#[101, 110, 100]⟩ : ByteArray)] from rfl) (Reps.one (show Kd.M Kd.string _ _ _ (⟨#[99, 108, 111, 115, 117, 114, 101]⟩ : ByteArray) [.string (⟨#[99, 108, 111, 115, 117, 114, 101]⟩ : ByteArray)] from rfl) (Reps.one (show Kd.M Kd.string _ _ _ (⟨#[102, 111, 114, 99, 104, 101, 99, 107]⟩ : ByteArray) [.string (⟨#[102, 111, 114, 99, 104, 101, 99, 107]⟩ : ByteArray)] from rfl) (Reps.one (show Kd.M Kd.string _ _ _ (⟨#[102, 111, 114, 115, 116, 101, 112]⟩ : ByteArray) [.string (⟨#[102, 111, 114, 115, 116, 101, 112]⟩ : ByteArray)] from rfl) (Reps.none _ _)))))))))))))))))))))))))))))))))))))))); intro v125 w6 ho7 hb hg_ hnew_; clear hg_ hnew_; (first | rw [← Ny124.out] at ho7 | (simp only [Int.reduceToNat] at ho7; rw [← Ny124.out] at ho7)); have n0_ := Aside0.mk (Kd.R_lower ho7 (below_size (by repeat (first | (with_reducible first | exact HB.out | apply below_alloc | apply pw_below_drewN | apply below_drew1) | exact HB.out)))); have n1_ := Aside0.mk (below_step (by repeat (first | (with_reducible first | exact HB.out | apply below_alloc | apply pw_below_drewN | apply below_drew1) | exact HB.out)) hb); clear HB; have HO126 := n0_; have HB := n1_; clear n0_ n1_; clear hb ho7; obtain ⟨Ao8, co8, eo8⟩ := Kd.R_slice HO126.out; subst eo8; have p127 : 0 ≤ (a0 : Int) := of_decide_eq_true (by first | (with_reducible assumption) | assumption); have q127 : a0 < (y124.length : Int) := of_decide_eq_true (by first | (with_reducible assumption) | assumption); obtain ⟨ad127, e127, hx127_0⟩ := Kd.at_string (Kd.R_reads' HO126.out).2.2 a0 p127 q127; cases e127; replace p127 := eq_true p127; replace q127 := eq_true q127))
        go_ret
        exact ⟨by first | rfl | (simp [errW_none, errW_some] <;> rfl) | (simp [*, errW_none, errW_some] <;> rfl), by repeat (first | (with_reducible first | exact HB.out | apply below_alloc | apply pw_below_drewN | apply below_drew1) | exact HB.out)⟩
      · rw [if_neg c5] at H
        exact absurd H (by simp)
    · rw [if_neg c4] at H
      exact absurd H (by simp)
  · replace c3 := Bool.eq_false_iff.mpr c3
    subst c3
    have H1 : (some (⟨#[110, 111, 110, 101]⟩ : ByteArray)) = some r := by rw [if_neg (show ¬ (false = true) by decide)] at H; exact H
    clear H
    have H := H1
    clear H1
    obtain rfl := Option.some.inj H
    go_enter Tryd.func18, Tryd.ntmps18
    go_wp2_with (first | ((with_reducible refine gate_callee (f := 34) rfl ?_); refine goesL_ (some 4) rfl rfl Tryd.func34 (by kernel_rfl) rfl #[.int .i64 a0] rfl (by (try simp only [List.map_toArray, List.map_cons, List.map_nil]); first | done | rfl | (simp only [List.length_drop, List.length_take]; rfl)) ?_; (with_reducible refine (minstrelref13_Is.calls a0 false _ A2.out).mono ?_); rintro e w' ⟨rfl, ⟨nd, rfl⟩⟩; refine ⟨_, rfl, ?_⟩))
    go_ret
    exact ⟨by first | rfl | (simp [errW_none, errW_some] <;> rfl) | (simp [*, errW_none, errW_some] <;> rfl), by repeat (first | (with_reducible first | exact HB.out | apply below_alloc | apply pw_below_drewN | apply below_drew1) | exact HB.out)⟩
end Go.Proofs.YtlhnkfheojlghaaDoor.Pr
end
section
namespace Go.Proofs.YtlhnkfheojlghaaDoor.Pr
open Go.RowKit Go.Proofs.YtlhnkfheojlghaaDoorW.PrintWords Go.Proofs.YtlhnkfheojlghaaDoorW.PrintLast Go.Proofs.YtlhnkfheojlghaaDoorW.PrintMore
attribute [local go_sem] max2_int min2_int max_two min_two max_three min_three max_four min_four
mutual
def minstrelref13_Small.l0 : Nat → Int → Int → Int → Int → Int → Int → List (S94) → List (S36) → List (S98) → List (S27) → Option (Int × Bool)
 | 0, _, _, _, _, _, _, _, _, _, _ => none
 | k + 1, x1, x2, x8, x9, x130000, x130001, x130002, x130003, x130004, x130005 => if x9 < (x130005.length : Int) then (if 0 ≤ x9 then ((minstrelref13_Small.f k ((rd_T27 x130005 x9).f0) ((rd_T27 x130005 x9).f1) ((rd_T27 x130005 x9).f2) ((rd_T27 x130005 x9).f3) ((rd_T27 x130005 x9).f4) ((rd_T27 x130005 x9).f5) (wrap64 (x1 - x8)) (wrap64 (x2 + 1))).bind fun bt131 => (if bt131.2 = true then (if (wrap64 (x8 + bt131.1)) > x1 then (some (wrap64 (x8 + bt131.1), false)) else (minstrelref13_Small.l0 k x1 x2 (wrap64 (x8 + bt131.1)) (wrap64 (x9 + 1)) x130000 x130001 x130002 x130003 x130004 x130005)) else (some (wrap64 (x8 + bt131.1), false)))) else (none)) else (some (x8, decide (x8 ≤ x1)))
def minstrelref13_Small.f : Nat → Int → Int → List (S94) → List (S36) → List (S98) → List (S27) → Int → Int → Option (Int × Bool)
 | 0, _, _, _, _, _, _, _, _ => none
 | k + 1, a0_0, a0_1, l0_2, l0_3, l0_4, l0_5, a1, a2 => if a2 > 200 then (some (wrap64 ((wrap64 ((wrap64 (1 + (l0_3.length : Int))) + (l0_4.length : Int))) + (l0_2.length : Int)), false)) else (minstrelref13_Small.l0 k a1 a2 (wrap64 ((wrap64 ((wrap64 (1 + (l0_3.length : Int))) + (l0_4.length : Int))) + (l0_2.length : Int))) 0 a0_0 a0_1 l0_2 l0_3 l0_4 l0_5)
end
set_option maxHeartbeats 8000000 in
set_option maxRecDepth 100000 in
theorem minstrelref13_Small.calls (k : Nat) : ∀ (a0_0 : Int) (a0_1 : Int) (A0_2 : Option Addr) (c0_2 : Nat) (l0_2 : List (S94)) (A0_3 : Option Addr) (c0_3 : Nat) (l0_3 : List (S36)) (A0_4 : Option Addr) (c0_4 : Nat) (l0_4 : List (S98)) (A0_5 : Option Addr) (c0_5 : Nat) (l0_5 : List (S27)) (a1 : Int) (a2 : Int) (r1 : Int) (r2 : Bool) (w : World) (hr0_2 : Kd.C k94 w A0_2 l0_2.length l0_2) (hc0_2 : l0_2.length ≤ c0_2) (hr0_3 : Kd.C k36 w A0_3 l0_3.length l0_3) (hc0_3 : l0_3.length ≤ c0_3) (hr0_4 : Kd.C k98 w A0_4 l0_4.length l0_4) (hc0_4 : l0_4.length ≤ c0_4) (hr0_5 : Kd.C k27 w A0_5 l0_5.length l0_5) (hc0_5 : l0_5.length ≤ c0_5) (h : minstrelref13_Small.f k a0_0 a0_1 l0_2 l0_3 l0_4 l0_5 a1 a2 = some (r1, r2)),
  Calls Tryd.prog 27 #[.agg #[.int .i64 a0_0, .int .i64 a0_1, .slice A0_2 l0_2.length c0_2, .slice A0_3 l0_3.length c0_3, .slice A0_4 l0_4.length c0_4, .slice A0_5 l0_5.length c0_5], .int .i64 a1, .int .i64 a2] w fun e w' => e = .returned (.tuple #[.int .i64 r1, .bool r2]) ∧ Below w.heap.size w w' := by
 induction k using Nat.strongRecOn with
 | _ k ih =>
 intro a0_0 a0_1 A0_2 c0_2 l0_2 A0_3 c0_3 l0_3 A0_4 c0_4 l0_4 A0_5 c0_5 l0_5 a1 a2 r1 r2 w hr0_2 hc0_2 hr0_3 hc0_3 hr0_4 hc0_4 hr0_5 hc0_5 h
 cases k with
 | zero => exact absurd h (by simp [minstrelref13_Small.f])
 | succ k =>
 simp only [minstrelref13_Small.f] at h
 have hu27 := Tryd.underlying27
 have HR0_2 := am hr0_2
 have HC0_2 := am hc0_2
 clear hr0_2 hc0_2
 have HR0_3 := am hr0_3
 have HC0_3 := am hc0_3
 clear hr0_3 hc0_3
 have HR0_4 := am hr0_4
 have HC0_4 := am hc0_4
 clear hr0_4 hc0_4
 have HR0_5 := am hr0_5
 have HC0_5 := am hc0_5
 clear hr0_5 hc0_5
 have HB := am (Below.refl w.heap.size w)
 have H : (if a2 > 200 then (some (wrap64 ((wrap64 ((wrap64 (1 + (l0_3.length : Int))) + (l0_4.length : Int))) + (l0_2.length : Int)), false)) else (minstrelref13_Small.l0 k a1 a2 (wrap64 ((wrap64 ((wrap64 (1 + (l0_3.length : Int))) + (l0_4.length : Int))) + (l0_2.length : Int))) 0 a0_0 a0_1 l0_2 l0_3 l0_4 l0_5)) = some (r1, r2) := h
 clear h
 by_cases c4 : a2 > 200
 ·rw [if_pos c4] at H
  have c4b0 : decide (200 < a2) = true := decide_eq_true c4
  clear c4
  simp only [Option.some.injEq, Prod.mk.injEq] at H
  obtain ⟨rfl, rfl⟩ := H
  go_enter Tryd.func27, Tryd.ntmps27
  go_wp2_with (first | ((with_reducible refine gate_dst (N := 3) rfl ?_); refine box_event ?hg (N := 3) ?hd (cs := #[.int .i64 a0_0, .int .i64 a0_1, .slice A0_2 l0_2.length c0_2, .slice A0_3 l0_3.length c0_3, .slice A0_4 l0_4.length c0_4, .slice A0_5 l0_5.length c0_5]) (t := 27) ?hr ?_; (case hd => rfl); (case hg => rfl); (case hr => first | (go_simp; done) | (go_simp; rfl)); intro gb129 hg w5 hbox hb; have BK129 := am (hbox); have GW129 := am ((by rw [hg]; exact (below_size pB) : w.heap.size ≤ gb129)); have GE129 := am ((by rw [hg]; exact (below_size pB) : w.heap.size ≤ gb129)); replace HB := am (below_step pB hb); clear hb hbox hg; have q6 := cf6 BK129.out))
  go_ret2
  exact ⟨pE, pB⟩
 ·rw [if_neg c4] at H
  have c4b0 : decide (200 < a2) = false := decide_eq_false c4
  clear c4
  have H' := am H
  clear H
  go_enter Tryd.func27, Tryd.ntmps27
  go_wp2_with (first | ((with_reducible refine gate_dst (N := 3) rfl ?_); refine box_event ?hg (N := 3) ?hd (cs := #[.int .i64 a0_0, .int .i64 a0_1, .slice A0_2 l0_2.length c0_2, .slice A0_3 l0_3.length c0_3, .slice A0_4 l0_4.length c0_4, .slice A0_5 l0_5.length c0_5]) (t := 27) ?hr ?_; (case hd => rfl); (case hg => rfl); (case hr => first | (go_simp; done) | (go_simp; rfl)); intro gb129 hg w7 hbox hb; have BK129 := am (hbox); have GW129 := am ((by rw [hg]; exact (below_size pB) : w.heap.size ≤ gb129)); have GE129 := am ((by rw [hg]; exact (below_size pB) : w.heap.size ≤ gb129)); replace HB := am (below_step pB hb); clear hb hbox hg; have q8 := cf6 BK129.out))
  go_loopg [8, 9] k (fun kq v8 v9 w' => ∃ (x8_1 : Int) (x9_1 : Int), v8 = .int .i64 x8_1 ∧ v9 = .int .i64 x9_1 ∧ Aside0 (minstrelref13_Small.l0 kq a1 a2 x8_1 x9_1 a0_0 a0_1 l0_2 l0_3 l0_4 l0_5 = some (r1, r2)) ∧ Aside0 (kq ≤ k) ∧ Aside0 (w'.heap[gb129]? = some (.cells #[.int .i64 a0_0, .int .i64 a0_1, (.slice A0_2 l0_2.length c0_2), (.slice A0_3 l0_3.length c0_3), (.slice A0_4 l0_4.length c0_4), (.slice A0_5 l0_5.length c0_5)] 27 (0, 0))) ∧ Aside0 (Below w.heap.size w w'))
  case atStart => exact ⟨(wrap64 ((wrap64 ((wrap64 (1 + (l0_3.length : Int))) + (l0_4.length : Int))) + (l0_2.length : Int))), (0), (by first | rfl | (simp; done) | (simp [*]; done)), (by first | rfl | (simp; done) | (simp [*]; done)), H', ⟨Nat.le_refl _⟩, ⟨by (with_reducible repeat (first | refine blk_drewN ?_ _ | refine blk_drew ?_ | refine blk_alloc ?_ _)); exact BK129.out⟩, ⟨pB⟩⟩
  case round =>
   clear H'
   try clear c2
   try clear p2
   try clear c4
   try clear c4b0
   try clear p6
   try clear q6 q8
   obtain ⟨x8_1, x9_1, rfl, rfl, HA, HK1, BK129, HB⟩ := hrel
   cases gk with
   | zero => exact absurd HA.out (by simp [minstrelref13_Small.l0])
   | succ k1 =>
    have H := HA.out
    clear HA
    simp only [minstrelref13_Small.l0] at H
    by_cases c9 : x9_1 < (l0_5.length : Int)
    ·rw [if_pos c9] at H
     have c9b0 : decide (x9_1 < (l0_5.length : Int)) = true := decide_eq_true c9
     clear c9
     by_cases c10 : 0 ≤ x9_1
     ·rw [if_pos c10] at H
      have c10b0 : decide (0 ≤ x9_1) = true := decide_eq_true c10
      clear c10
      replace H := Option.bind_eq_some_iff.mp H
      obtain ⟨⟨t131, t132⟩, A110, H⟩ := H
      try dsimp only at H
      have A11 := am A110
      clear A110
      by_cases c12 : t132 = true
      ·subst c12
       rw [if_pos rfl] at H
       by_cases c13 : (wrap64 (x8_1 + t131)) > a1
       ·rw [if_pos c13] at H
        have c13b0 : decide (a1 < (wrap64 (x8_1 + t131))) = true := decide_eq_true c13
        clear c13
        simp only [Option.some.injEq, Prod.mk.injEq] at H
        obtain ⟨rfl, rfl⟩ := H
        have q14 := cf6 BK129.out
        have p130 : 0 ≤ (x9_1 : Int) := pD
        have q130 : x9_1 < (l0_5.length : Int) := pD
        obtain ⟨ad130, A130_2, c130_2, A130_3, c130_3, A130_4, c130_4, A130_5, c130_5, e130, hx130_0, hx130_1, hx130_2, hx130_3, hx130_4, hx130_5, hl130_2, hi130_2, hl130_3, hi130_3, hl130_4, hi130_4, hl130_5, hi130_5⟩ := at_T27 HR0_5.out x9_1 p130 q130
        cases e130
        replace hx130_0 := (HB.out.cell (World.block_lt_of_cell? w _ hx130_0)).trans hx130_0
        replace hx130_1 := (HB.out.cell (World.block_lt_of_cell? w _ hx130_1)).trans hx130_1
        replace hx130_2 := (HB.out.cell (World.block_lt_of_cell? w _ hx130_2)).trans hx130_2
        replace hx130_3 := (HB.out.cell (World.block_lt_of_cell? w _ hx130_3)).trans hx130_3
        replace hx130_4 := (HB.out.cell (World.block_lt_of_cell? w _ hx130_4)).trans hx130_4
        replace hx130_5 := (HB.out.cell (World.block_lt_of_cell? w _ hx130_5)).trans hx130_5
        have HR130_2 := am hi130_2
        have HC130_2 := am hl130_2
        clear hi130_2 hl130_2
        have HR130_3 := am hi130_3
        have HC130_3 := am hl130_3
        clear hi130_3 hl130_3
        have HR130_4 := am hi130_4
        have HC130_4 := am hl130_4
        clear hi130_4 hl130_4
        have HR130_5 := am hi130_5
        have HC130_5 := am hl130_5
        clear hi130_5 hl130_5
        replace p130 := eq_true p130
        replace q130 := eq_true q130
        go_wp2_with (first | ((with_reducible refine gate_callee (f := 27) rfl ?_); refine goesL_ (some 45) rfl rfl Tryd.func27 (by kernel_rfl) rfl #[.agg #[.int .i64 ((rd_T27 l0_5 x9_1).f0), .int .i64 ((rd_T27 l0_5 x9_1).f1), .slice A130_2 ((rd_T27 l0_5 x9_1).f2).length c130_2, .slice A130_3 ((rd_T27 l0_5 x9_1).f3).length c130_3, .slice A130_4 ((rd_T27 l0_5 x9_1).f4).length c130_4, .slice A130_5 ((rd_T27 l0_5 x9_1).f5).length c130_5], .int .i64 (wrap64 (a1 - x8_1)), .int .i64 (wrap64 (a2 + 1))] rfl pM ?_; (with_reducible refine (ih k1 (by have := HK1.out; omega) ((rd_T27 l0_5 x9_1).f0) ((rd_T27 l0_5 x9_1).f1) _ _ ((rd_T27 l0_5 x9_1).f2) _ _ ((rd_T27 l0_5 x9_1).f3) _ _ ((rd_T27 l0_5 x9_1).f4) _ _ ((rd_T27 l0_5 x9_1).f5) (wrap64 (a1 - x8_1)) (wrap64 (a2 + 1)) t131 true _ ?side1 ?side2 ?side3 ?side4 ?side5 ?side6 ?side7 ?side8 A11.out).mono ?_); (case side1 => exact pC (Kd.C_below HR130_2.out HB.out)); (case side2 => exact HC130_2.out); (case side3 => exact pC (Kd.C_below HR130_3.out HB.out)); (case side4 => exact HC130_3.out); (case side5 => exact pC (Kd.C_below HR130_4.out HB.out)); (case side6 => exact HC130_4.out); (case side7 => exact pC (Kd.C_below HR130_5.out HB.out)); (case side8 => exact HC130_5.out); rintro e w15 ⟨rfl, hb⟩; refine ⟨_, rfl, ?_⟩; replace BK129 := am (pkb BK129.out hb); replace HB := am (below_step pB hb); (try clear hb); (try clear hb2); (try clear hk); (try clear hi)))
        go_ret2
        exact ⟨pE, pB⟩
       ·rw [if_neg c13] at H
        have c13b0 : decide (a1 < (wrap64 (x8_1 + t131))) = false := decide_eq_false c13
        clear c13
        have H' := am H
        clear H
        have q16 := cf6 BK129.out
        have p130 : 0 ≤ (x9_1 : Int) := pD
        have q130 : x9_1 < (l0_5.length : Int) := pD
        obtain ⟨ad130, A130_2, c130_2, A130_3, c130_3, A130_4, c130_4, A130_5, c130_5, e130, hx130_0, hx130_1, hx130_2, hx130_3, hx130_4, hx130_5, hl130_2, hi130_2, hl130_3, hi130_3, hl130_4, hi130_4, hl130_5, hi130_5⟩ := at_T27 HR0_5.out x9_1 p130 q130
        cases e130
        replace hx130_0 := (HB.out.cell (World.block_lt_of_cell? w _ hx130_0)).trans hx130_0
        replace hx130_1 := (HB.out.cell (World.block_lt_of_cell? w _ hx130_1)).trans hx130_1
        replace hx130_2 := (HB.out.cell (World.block_lt_of_cell? w _ hx130_2)).trans hx130_2
        replace hx130_3 := (HB.out.cell (World.block_lt_of_cell? w _ hx130_3)).trans hx130_3
        replace hx130_4 := (HB.out.cell (World.block_lt_of_cell? w _ hx130_4)).trans hx130_4
        replace hx130_5 := (HB.out.cell (World.block_lt_of_cell? w _ hx130_5)).trans hx130_5
        have HR130_2 := am hi130_2
        have HC130_2 := am hl130_2
        clear hi130_2 hl130_2
        have HR130_3 := am hi130_3
        have HC130_3 := am hl130_3
        clear hi130_3 hl130_3
        have HR130_4 := am hi130_4
        have HC130_4 := am hl130_4
        clear hi130_4 hl130_4
        have HR130_5 := am hi130_5
        have HC130_5 := am hl130_5
        clear hi130_5 hl130_5
        replace p130 := eq_true p130
        replace q130 := eq_true q130
        go_wp2_with (first | ((with_reducible refine gate_callee (f := 27) rfl ?_); refine goesL_ (some 45) rfl rfl Tryd.func27 (by kernel_rfl) rfl #[.agg #[.int .i64 ((rd_T27 l0_5 x9_1).f0), .int .i64 ((rd_T27 l0_5 x9_1).f1), .slice A130_2 ((rd_T27 l0_5 x9_1).f2).length c130_2, .slice A130_3 ((rd_T27 l0_5 x9_1).f3).length c130_3, .slice A130_4 ((rd_T27 l0_5 x9_1).f4).length c130_4, .slice A130_5 ((rd_T27 l0_5 x9_1).f5).length c130_5], .int .i64 (wrap64 (a1 - x8_1)), .int .i64 (wrap64 (a2 + 1))] rfl pM ?_; (with_reducible refine (ih k1 (by have := HK1.out; omega) ((rd_T27 l0_5 x9_1).f0) ((rd_T27 l0_5 x9_1).f1) _ _ ((rd_T27 l0_5 x9_1).f2) _ _ ((rd_T27 l0_5 x9_1).f3) _ _ ((rd_T27 l0_5 x9_1).f4) _ _ ((rd_T27 l0_5 x9_1).f5) (wrap64 (a1 - x8_1)) (wrap64 (a2 + 1)) t131 true _ ?side1 ?side2 ?side3 ?side4 ?side5 ?side6 ?side7 ?side8 A11.out).mono ?_); (case side1 => exact pC (Kd.C_below HR130_2.out HB.out)); (case side2 => exact HC130_2.out); (case side3 => exact pC (Kd.C_below HR130_3.out HB.out)); (case side4 => exact HC130_3.out); (case side5 => exact pC (Kd.C_below HR130_4.out HB.out)); (case side6 => exact HC130_4.out); (case side7 => exact pC (Kd.C_below HR130_5.out HB.out)); (case side8 => exact HC130_5.out); rintro e w17 ⟨rfl, hb⟩; refine ⟨_, rfl, ?_⟩; replace BK129 := am (pkb BK129.out hb); replace HB := am (below_step pB hb); (try clear hb); (try clear hb2); (try clear hk); (try clear hi)))
        go_roundg k1
        case measure => have := HK1.out; omega
        case rel => exact ⟨(wrap64 (x8_1 + t131)), (wrap64 (x9_1 + 1)), (by first | rfl | (simp; done) | (simp [*]; done)), (by first | rfl | (simp; done) | (simp [*]; done)), H', ⟨by have := HK1.out; omega⟩, ⟨by (with_reducible repeat (first | refine blk_drewN ?_ _ | refine blk_drew ?_ | refine blk_alloc ?_ _)); exact BK129.out⟩, ⟨pB⟩⟩
      ·replace c12 := Bool.eq_false_iff.mpr c12
       subst c12
       rw [if_neg (show ¬ (false = true) by decide)] at H
       simp only [Option.some.injEq, Prod.mk.injEq] at H
       obtain ⟨rfl, rfl⟩ := H
       have q18 := cf6 BK129.out
       have p130 : 0 ≤ (x9_1 : Int) := pD
       have q130 : x9_1 < (l0_5.length : Int) := pD
       obtain ⟨ad130, A130_2, c130_2, A130_3, c130_3, A130_4, c130_4, A130_5, c130_5, e130, hx130_0, hx130_1, hx130_2, hx130_3, hx130_4, hx130_5, hl130_2, hi130_2, hl130_3, hi130_3, hl130_4, hi130_4, hl130_5, hi130_5⟩ := at_T27 HR0_5.out x9_1 p130 q130
       cases e130
       replace hx130_0 := (HB.out.cell (World.block_lt_of_cell? w _ hx130_0)).trans hx130_0
       replace hx130_1 := (HB.out.cell (World.block_lt_of_cell? w _ hx130_1)).trans hx130_1
       replace hx130_2 := (HB.out.cell (World.block_lt_of_cell? w _ hx130_2)).trans hx130_2
       replace hx130_3 := (HB.out.cell (World.block_lt_of_cell? w _ hx130_3)).trans hx130_3
       replace hx130_4 := (HB.out.cell (World.block_lt_of_cell? w _ hx130_4)).trans hx130_4
       replace hx130_5 := (HB.out.cell (World.block_lt_of_cell? w _ hx130_5)).trans hx130_5
       have HR130_2 := am hi130_2
       have HC130_2 := am hl130_2
       clear hi130_2 hl130_2
       have HR130_3 := am hi130_3
       have HC130_3 := am hl130_3
       clear hi130_3 hl130_3
       have HR130_4 := am hi130_4
       have HC130_4 := am hl130_4
       clear hi130_4 hl130_4
       have HR130_5 := am hi130_5
       have HC130_5 := am hl130_5
       clear hi130_5 hl130_5
       replace p130 := eq_true p130
       replace q130 := eq_true q130
       go_wp2_with (first | ((with_reducible refine gate_callee (f := 27) rfl ?_); refine goesL_ (some 45) rfl rfl Tryd.func27 (by kernel_rfl) rfl #[.agg #[.int .i64 ((rd_T27 l0_5 x9_1).f0), .int .i64 ((rd_T27 l0_5 x9_1).f1), .slice A130_2 ((rd_T27 l0_5 x9_1).f2).length c130_2, .slice A130_3 ((rd_T27 l0_5 x9_1).f3).length c130_3, .slice A130_4 ((rd_T27 l0_5 x9_1).f4).length c130_4, .slice A130_5 ((rd_T27 l0_5 x9_1).f5).length c130_5], .int .i64 (wrap64 (a1 - x8_1)), .int .i64 (wrap64 (a2 + 1))] rfl pM ?_; (with_reducible refine (ih k1 (by have := HK1.out; omega) ((rd_T27 l0_5 x9_1).f0) ((rd_T27 l0_5 x9_1).f1) _ _ ((rd_T27 l0_5 x9_1).f2) _ _ ((rd_T27 l0_5 x9_1).f3) _ _ ((rd_T27 l0_5 x9_1).f4) _ _ ((rd_T27 l0_5 x9_1).f5) (wrap64 (a1 - x8_1)) (wrap64 (a2 + 1)) t131 false _ ?side1 ?side2 ?side3 ?side4 ?side5 ?side6 ?side7 ?side8 A11.out).mono ?_); (case side1 => exact pC (Kd.C_below HR130_2.out HB.out)); (case side2 => exact HC130_2.out); (case side3 => exact pC (Kd.C_below HR130_3.out HB.out)); (case side4 => exact HC130_3.out); (case side5 => exact pC (Kd.C_below HR130_4.out HB.out)); (case side6 => exact HC130_4.out); (case side7 => exact pC (Kd.C_below HR130_5.out HB.out)); (case side8 => exact HC130_5.out); rintro e w19 ⟨rfl, hb⟩; refine ⟨_, rfl, ?_⟩; replace BK129 := am (pkb BK129.out hb); replace HB := am (below_step pB hb); (try clear hb); (try clear hb2); (try clear hk); (try clear hi)))
       go_ret2
       exact ⟨pE, pB⟩
     ·rw [if_neg c10] at H
      exact absurd H (by simp)
    ·rw [if_neg c9] at H
     have c9b0 : decide (x9_1 < (l0_5.length : Int)) = false := decide_eq_false c9
     clear c9
     simp only [Option.some.injEq, Prod.mk.injEq] at H
     obtain ⟨rfl, rfl⟩ := H
     have q20 := cf6 BK129.out
     go_wp2
     go_ret2
     exact ⟨pE, pB⟩
def minstrellaw13_small.f (k : Nat) (a0_0 : Int) (a0_1 : Int) (l0_2 : List (S94)) (l0_3 : List (S36)) (l0_4 : List (S98)) (l0_5 : List (S27)) : Option (Bool) := (minstrelref13_Small.f k a0_0 a0_1 l0_2 l0_3 l0_4 l0_5 3000 0).bind fun bt134 => (some bt134.2)
set_option maxHeartbeats 8000000 in
set_option maxRecDepth 100000 in
theorem minstrellaw13_small.calls (k : Nat) (a0_0 : Int) (a0_1 : Int) (A0_2 : Option Addr) (c0_2 : Nat) (l0_2 : List (S94)) (A0_3 : Option Addr) (c0_3 : Nat) (l0_3 : List (S36)) (A0_4 : Option Addr) (c0_4 : Nat) (l0_4 : List (S98)) (A0_5 : Option Addr) (c0_5 : Nat) (l0_5 : List (S27)) (r : Bool) (w : World) (hr0_2 : Kd.C k94 w A0_2 l0_2.length l0_2) (hc0_2 : l0_2.length ≤ c0_2) (hr0_3 : Kd.C k36 w A0_3 l0_3.length l0_3) (hc0_3 : l0_3.length ≤ c0_3) (hr0_4 : Kd.C k98 w A0_4 l0_4.length l0_4) (hc0_4 : l0_4.length ≤ c0_4) (hr0_5 : Kd.C k27 w A0_5 l0_5.length l0_5) (hc0_5 : l0_5.length ≤ c0_5) (h : minstrellaw13_small.f k a0_0 a0_1 l0_2 l0_3 l0_4 l0_5 = some r) :
  Calls Tryd.prog 8 #[.agg #[.int .i64 a0_0, .int .i64 a0_1, .slice A0_2 l0_2.length c0_2, .slice A0_3 l0_3.length c0_3, .slice A0_4 l0_4.length c0_4, .slice A0_5 l0_5.length c0_5]] w fun e w' => e = .returned (.bool r) ∧ Below w.heap.size w w' := by
 have hu27 := Tryd.underlying27
 have HR0_2 := am hr0_2
 have HC0_2 := am hc0_2
 clear hr0_2 hc0_2
 have HR0_3 := am hr0_3
 have HC0_3 := am hc0_3
 clear hr0_3 hc0_3
 have HR0_4 := am hr0_4
 have HC0_4 := am hc0_4
 clear hr0_4 hc0_4
 have HR0_5 := am hr0_5
 have HC0_5 := am hc0_5
 clear hr0_5 hc0_5
 have HB := am (Below.refl w.heap.size w)
 have H : ((minstrelref13_Small.f k a0_0 a0_1 l0_2 l0_3 l0_4 l0_5 3000 0).bind fun bt134 => (some bt134.2)) = some r := h
 clear h
 replace H := Option.bind_eq_some_iff.mp H
 obtain ⟨⟨t134, t135⟩, A20, H⟩ := H
 try dsimp only at H
 have A2 := am A20
 clear A20
 obtain rfl := Option.some.inj H
 go_enter Tryd.func8, Tryd.ntmps8
 go_wp2_with (first | ((with_reducible refine gate_dst (N := 1) rfl ?_); refine box_event ?hg (N := 1) ?hd (cs := #[.int .i64 a0_0, .int .i64 a0_1, .slice A0_2 l0_2.length c0_2, .slice A0_3 l0_3.length c0_3, .slice A0_4 l0_4.length c0_4, .slice A0_5 l0_5.length c0_5]) (t := 27) ?hr ?_; (case hd => rfl); (case hg => rfl); (case hr => first | (go_simp; done) | (go_simp; rfl)); intro gb133 hg w3 hbox hb; have BK133 := am (hbox); have GW133 := am ((by rw [hg]; exact (below_size pB) : w.heap.size ≤ gb133)); have GE133 := am ((by rw [hg]; exact (below_size pB) : w.heap.size ≤ gb133)); replace HB := am (below_step pB hb); clear hb hbox hg; have q4 := cf6 BK133.out) | ((with_reducible refine gate_callee (f := 27) rfl ?_); refine goesL_ (some 7) rfl rfl Tryd.func27 (by kernel_rfl) rfl #[.agg #[.int .i64 a0_0, .int .i64 a0_1, .slice A0_2 l0_2.length c0_2, .slice A0_3 l0_3.length c0_3, .slice A0_4 l0_4.length c0_4, .slice A0_5 l0_5.length c0_5], .int .i64 3000, .int .i64 0] rfl pM ?_; (with_reducible refine (minstrelref13_Small.calls k a0_0 a0_1 _ _ l0_2 _ _ l0_3 _ _ l0_4 _ _ l0_5 3000 0 t134 t135 _ ?side1 ?side2 ?side3 ?side4 ?side5 ?side6 ?side7 ?side8 A2.out).mono ?_); (case side1 => exact pC (Kd.C_below HR0_2.out HB.out)); (case side2 => exact HC0_2.out); (case side3 => exact pC (Kd.C_below HR0_3.out HB.out)); (case side4 => exact HC0_3.out); (case side5 => exact pC (Kd.C_below HR0_4.out HB.out)); (case side6 => exact HC0_4.out); (case side7 => exact pC (Kd.C_below HR0_5.out HB.out)); (case side8 => exact HC0_5.out); rintro e w5 ⟨rfl, hb⟩; refine ⟨_, rfl, ?_⟩; replace BK133 := am (pkb BK133.out hb); replace HB := am (below_step pB hb); (try clear hb); (try clear hb2); (try clear hk); (try clear hi)))
 go_ret
 exact ⟨pE, pB⟩
mutual
def minstrelref01_Kind.j0 : Nat → Int → Int → Bool → Option (Int)
 | 0, _, _, _ => none
 | k + 1, x3, x4, x15 => if x15 = true then (some 4) else (if x3 = 2047 then (some 3) else (if x3 = 0 then (minstrelref01_Kind.j1 k x3 (x4 == 0)) else (minstrelref01_Kind.j1 k x3 false)))
def minstrelref01_Kind.j1 : Nat → Int → Bool → Option (Int)
 | 0, _, _ => none
 | k + 1, x3, x23 => if x23 = true then (some 0) else (if x3 = 0 then (some 1) else (some 2))
end
def minstrelref01_Kind.f (k : Nat) (a0 : Int) : Option (Int) := if (Go.bits .and .u64 (a0 / 4503599627370496) 2047) = 2047 then (minstrelref01_Kind.j0 k (Go.bits .and .u64 (a0 / 4503599627370496) 2047) (Go.bits .and .u64 a0 4503599627370495) ((Go.bits .and .u64 a0 4503599627370495) != 0)) else (minstrelref01_Kind.j0 k (Go.bits .and .u64 (a0 / 4503599627370496) 2047) (Go.bits .and .u64 a0 4503599627370495) false)
set_option maxHeartbeats 8000000 in
set_option maxRecDepth 100000 in
theorem minstrelref01_Kind.calls (k : Nat) (a0 : Int) (r : Int) (w : World) (h : minstrelref01_Kind.f k a0 = some r) :
  Calls Tryd.prog 84 #[.int .u64 a0] w fun e w' => e = .returned (.int .i64 r) ∧ Drawn0 w w' := by
 have H : (if (Go.bits .and .u64 (a0 / 4503599627370496) 2047) = 2047 then (minstrelref01_Kind.j0 k (Go.bits .and .u64 (a0 / 4503599627370496) 2047) (Go.bits .and .u64 a0 4503599627370495) ((Go.bits .and .u64 a0 4503599627370495) != 0)) else (minstrelref01_Kind.j0 k (Go.bits .and .u64 (a0 / 4503599627370496) 2047) (Go.bits .and .u64 a0 4503599627370495) false)) = some r := h
 clear h
 have HC2 := am H
 clear H
 go_enter Tryd.func84, Tryd.ntmps84
 go_upto_region 2 with (fail)
 go_cut [15] (fun v15 wc => ∃ (kq : Nat) (x15_1 : Bool), v15 = .bool x15_1 ∧ Aside0 (minstrelref01_Kind.j0 kq (Go.bits .and .u64 (a0 / 4503599627370496) 2047) (Go.bits .and .u64 a0 4503599627370495) x15_1 = some r) ∧ Aside0 (kq ≤ k) ∧ Drawn0 w wc)
 case first =>
  have H := HC2.out
  clear HC2
  by_cases c3 : (Go.bits .and .u64 (a0 / 4503599627370496) 2047) = 2047
  ·rw [if_pos c3] at H
   have c3b0 : ((Go.bits .and .u64 (a0 / 4503599627370496) 2047) == 2047) = true := beq_iff_eq.mpr c3
   have c3b1 : ((Go.bits .and .u64 (a0 / 4503599627370496) 2047) != 2047) = false := bne_eq_false_iff_eq.mpr c3
   clear c3
   (first | rw [c3b0] | (simp only [i64_w, i32_w]; rw [c3b0]) | rw [c3b1] | (simp only [i64_w, i32_w]; rw [c3b1]) | skip)
   have H' := am H
   clear H
   go_wp2
   go_meet
   case rel => exact ⟨_, (((Go.bits .and .u64 a0 4503599627370495) != 0)), (by first | rfl | (simp; done) | (simp [*]; done)), H', ⟨by first | omega | exact Nat.le_refl _⟩, by repeat (first | exact Drawn0.refl _ | apply Drawn0.step)⟩
  ·rw [if_neg c3] at H
   have c3b0 : ((Go.bits .and .u64 (a0 / 4503599627370496) 2047) == 2047) = false := beq_eq_false_iff_ne.mpr c3
   have c3b1 : ((Go.bits .and .u64 (a0 / 4503599627370496) 2047) != 2047) = true := bne_iff_ne.mpr c3
   (first | rw [c3b0] | (simp only [i64_w, i32_w]; rw [c3b0]) | rw [c3b1] | (simp only [i64_w, i32_w]; rw [c3b1]) | skip)
   have H' := am H
   clear H
   go_wp2
   go_meet
   case rel => exact ⟨_, (false), (by first | rfl | (simp; done) | (simp [*]; done)), H', ⟨by first | omega | exact Nat.le_refl _⟩, by repeat (first | exact Drawn0.refl _ | apply Drawn0.step)⟩
 case rest =>
  clear HC2
  try clear p2
  try clear c3
  try clear c3b0
  try clear c3b1
  obtain ⟨kq, x15_1, rfl, HA, HJ1, ⟨mc1, rfl⟩⟩ := hcut
  cases kq with
  | zero => exact absurd HA.out (by simp [minstrelref01_Kind.j0])
  | succ kj1 =>
   have H := HA.out
   clear HA
   simp only [minstrelref01_Kind.j0] at H
   by_cases c4 : x15_1 = true
   ·subst c4
    rw [if_pos rfl] at H
    obtain rfl := Option.some.inj H
    go_wp2
    go_ret
    exact ⟨by first | rfl | (simp; done) | (simp [*]; done), by repeat (first | exact Drawn0.refl _ | apply Drawn0.step)⟩
   ·replace c4 := Bool.eq_false_iff.mpr c4
    subst c4
    rw [if_neg (show ¬ (false = true) by decide)] at H
    by_cases c5 : (Go.bits .and .u64 (a0 / 4503599627370496) 2047) = 2047
    ·rw [if_pos c5] at H
     have c5b0 : ((Go.bits .and .u64 (a0 / 4503599627370496) 2047) == 2047) = true := beq_iff_eq.mpr c5
     have c5b1 : ((Go.bits .and .u64 (a0 / 4503599627370496) 2047) != 2047) = false := bne_eq_false_iff_eq.mpr c5
     clear c5
     obtain rfl := Option.some.inj H
     go_wp2
     go_ret
     exact ⟨by first | rfl | (simp; done) | (simp [*]; done), by repeat (first | exact Drawn0.refl _ | apply Drawn0.step)⟩
    ·rw [if_neg c5] at H
     have c5b0 : ((Go.bits .and .u64 (a0 / 4503599627370496) 2047) == 2047) = false := beq_eq_false_iff_ne.mpr c5
     have c5b1 : ((Go.bits .and .u64 (a0 / 4503599627370496) 2047) != 2047) = true := bne_iff_ne.mpr c5
     have HC6 := am H
     clear H
     go_upto_region 6 with (fail)
     go_cut [23] (fun v23 wc => ∃ (kq : Nat) (x23_5 : Bool), v23 = .bool x23_5 ∧ Aside0 (minstrelref01_Kind.j1 kq (Go.bits .and .u64 (a0 / 4503599627370496) 2047) x23_5 = some r) ∧ Aside0 (kq ≤ kj1) ∧ Drawn0 w wc)
     case first =>
      have H := HC6.out
      clear HC6
      by_cases c7 : (Go.bits .and .u64 (a0 / 4503599627370496) 2047) = 0
      ·rw [if_pos c7] at H
       have c7b0 : ((Go.bits .and .u64 (a0 / 4503599627370496) 2047) == 0) = true := beq_iff_eq.mpr c7
       have c7b1 : ((Go.bits .and .u64 (a0 / 4503599627370496) 2047) != 0) = false := bne_eq_false_iff_eq.mpr c7
       clear c7
       (first | rw [c7b0] | (simp only [i64_w, i32_w]; rw [c7b0]) | rw [c7b1] | (simp only [i64_w, i32_w]; rw [c7b1]) | skip)
       have H' := am H
       clear H
       go_wp2
       go_meet
       case rel => exact ⟨_, (((Go.bits .and .u64 a0 4503599627370495) == 0)), (by first | rfl | (simp; done) | (simp [*]; done)), H', ⟨by have := HJ1.out; first | omega | exact Nat.le_refl _⟩, by repeat (first | exact Drawn0.refl _ | apply Drawn0.step)⟩
      ·rw [if_neg c7] at H
       have c7b0 : ((Go.bits .and .u64 (a0 / 4503599627370496) 2047) == 0) = false := beq_eq_false_iff_ne.mpr c7
       have c7b1 : ((Go.bits .and .u64 (a0 / 4503599627370496) 2047) != 0) = true := bne_iff_ne.mpr c7
       (first | rw [c7b0] | (simp only [i64_w, i32_w]; rw [c7b0]) | rw [c7b1] | (simp only [i64_w, i32_w]; rw [c7b1]) | skip)
       have H' := am H
       clear H
       go_wp2
       go_meet
       case rel => exact ⟨_, (false), (by first | rfl | (simp; done) | (simp [*]; done)), H', ⟨by have := HJ1.out; first | omega | exact Nat.le_refl _⟩, by repeat (first | exact Drawn0.refl _ | apply Drawn0.step)⟩
     case rest =>
      clear HC6
      try clear c1
      try clear p2
      try clear c3
      try clear c3b0
      try clear c3b1
      try clear c4
      try clear c5
      try clear c5b0
      try clear c5b1
      try clear c7
      try clear c7b0
      try clear c7b1
      try clear p2
      obtain ⟨kq, x23_5, rfl, HA, HJ5, ⟨mc5, rfl⟩⟩ := hcut
      cases kq with
      | zero => exact absurd HA.out (by simp [minstrelref01_Kind.j1])
      | succ kj5 =>
       have H := HA.out
       clear HA
       simp only [minstrelref01_Kind.j1] at H
       by_cases c8 : x23_5 = true
       ·subst c8
        rw [if_pos rfl] at H
        obtain rfl := Option.some.inj H
        go_wp2
        go_ret
        exact ⟨by first | rfl | (simp; done) | (simp [*]; done), by repeat (first | exact Drawn0.refl _ | apply Drawn0.step)⟩
       ·replace c8 := Bool.eq_false_iff.mpr c8
        subst c8
        rw [if_neg (show ¬ (false = true) by decide)] at H
        by_cases c9 : (Go.bits .and .u64 (a0 / 4503599627370496) 2047) = 0
        ·rw [if_pos c9] at H
         have c9b0 : ((Go.bits .and .u64 (a0 / 4503599627370496) 2047) == 0) = true := beq_iff_eq.mpr c9
         have c9b1 : ((Go.bits .and .u64 (a0 / 4503599627370496) 2047) != 0) = false := bne_eq_false_iff_eq.mpr c9
         clear c9
         obtain rfl := Option.some.inj H
         go_wp2
         go_ret
         exact ⟨by first | rfl | (simp; done) | (simp [*]; done), by repeat (first | exact Drawn0.refl _ | apply Drawn0.step)⟩
        ·rw [if_neg c9] at H
         have c9b0 : ((Go.bits .and .u64 (a0 / 4503599627370496) 2047) == 0) = false := beq_eq_false_iff_ne.mpr c9
         have c9b1 : ((Go.bits .and .u64 (a0 / 4503599627370496) 2047) != 0) = true := bne_iff_ne.mpr c9
         obtain rfl := Option.some.inj H
         go_wp2
         go_ret
         exact ⟨by first | rfl | (simp; done) | (simp [*]; done), by repeat (first | exact Drawn0.refl _ | apply Drawn0.step)⟩
def minstrelref01_Nan.f  : Option (Int) := some 9221120237041090560
set_option maxHeartbeats 8000000 in
set_option maxRecDepth 100000 in
theorem minstrelref01_Nan.calls  (r : Int) (w : World) (h : minstrelref01_Nan.f  = some r) :
  Calls Tryd.prog 85 #[] w fun e w' => e = .returned (.int .u64 r) ∧ Drawn0 w w' := by
 have H : (some 9221120237041090560) = some r := h
 clear h
 obtain rfl := Option.some.inj H
 go_enter Tryd.func85, Tryd.ntmps85
 go_wp2
 go_ret
 exact ⟨by first | rfl | (simp; done) | (simp [*]; done), by repeat (first | exact Drawn0.refl _ | apply Drawn0.step)⟩
def minstrelref01_Canon.f (k : Nat) (a0 : Int) : Option (Int) := (minstrelref01_Kind.f k a0).bind fun t136 => (if t136 = 4 then ((minstrelref01_Nan.f).bind fun t137 => (some t137)) else (some a0))
set_option maxHeartbeats 8000000 in
set_option maxRecDepth 100000 in
theorem minstrelref01_Canon.calls (k : Nat) (a0 : Int) (r : Int) (w : World) (h : minstrelref01_Canon.f k a0 = some r) :
  Calls Tryd.prog 79 #[.int .u64 a0] w fun e w' => e = .returned (.int .u64 r) ∧ Drawn0 w w' := by
 have H : ((minstrelref01_Kind.f k a0).bind fun t136 => (if t136 = 4 then ((minstrelref01_Nan.f).bind fun t137 => (some t137)) else (some a0))) = some r := h
 clear h
 replace H := Option.bind_eq_some_iff.mp H
 obtain ⟨t136, A20, H⟩ := H
 try dsimp only at H
 have A2 := am A20
 clear A20
 by_cases c3 : t136 = 4
 ·rw [if_pos c3] at H
  have c3b0 : (t136 == 4) = true := beq_iff_eq.mpr c3
  have c3b1 : (t136 != 4) = false := bne_eq_false_iff_eq.mpr c3
  clear c3
  replace H := Option.bind_eq_some_iff.mp H
  obtain ⟨t137, A40, H⟩ := H
  try dsimp only at H
  have A4 := am A40
  clear A40
  obtain rfl := Option.some.inj H
  go_enter Tryd.func79, Tryd.ntmps79
  go_wp2_with (first | ((with_reducible refine gate_callee (f := 84) rfl ?_); refine goesL_ (some 4) rfl rfl Tryd.func84 (by kernel_rfl) rfl #[.int .u64 a0] rfl pM ?_; (with_reducible refine (minstrelref01_Kind.calls k a0 t136 _ A2.out).mono ?_); rintro e w' ⟨rfl, ⟨nd, rfl⟩⟩; refine ⟨_, rfl, ?_⟩) | ((with_reducible refine gate_callee (f := 85) rfl ?_); refine goesL_ (some 6) rfl rfl Tryd.func85 (by kernel_rfl) rfl #[] rfl pM ?_; (with_reducible refine (minstrelref01_Nan.calls  t137 _ A4.out).mono ?_); rintro e w' ⟨rfl, ⟨nd, rfl⟩⟩; refine ⟨_, rfl, ?_⟩))
  go_ret
  exact ⟨by first | rfl | (simp; done) | (simp [*]; done), by repeat (first | exact Drawn0.refl _ | apply Drawn0.step)⟩
 ·rw [if_neg c3] at H
  have c3b0 : (t136 == 4) = false := beq_eq_false_iff_ne.mpr c3
  have c3b1 : (t136 != 4) = true := bne_iff_ne.mpr c3
  obtain rfl := Option.some.inj H
  go_enter Tryd.func79, Tryd.ntmps79
  go_wp2_with (first | ((with_reducible refine gate_callee (f := 84) rfl ?_); refine goesL_ (some 4) rfl rfl Tryd.func84 (by kernel_rfl) rfl #[.int .u64 a0] rfl pM ?_; (with_reducible refine (minstrelref01_Kind.calls k a0 t136 _ A2.out).mono ?_); rintro e w' ⟨rfl, ⟨nd, rfl⟩⟩; refine ⟨_, rfl, ?_⟩))
  go_ret
  exact ⟨by first | rfl | (simp; done) | (simp [*]; done), by repeat (first | exact Drawn0.refl _ | apply Drawn0.step)⟩
end Go.Proofs.YtlhnkfheojlghaaDoor.Pr
end
section
namespace Go.Proofs.YtlhnkfheojlghaaDoor.Pr
open Go.RowKit Go.Proofs.YtlhnkfheojlghaaDoorW.PrintWords Go.Proofs.YtlhnkfheojlghaaDoorW.PrintLast Go.Proofs.YtlhnkfheojlghaaDoorW.PrintMore
attribute [local go_sem] max2_int min2_int max_two min_two max_three min_three max_four min_four
theorem eqA98 (d : Nat) (w : World) (x0 y0 : Int) (x1 y1 : Int) (x2 y2 : ByteArray) (x3 y3 : Int) :
    (Op.equalIn (d + 2) 98 (.agg #[.int .i64 x0, .int .u64 x1, .string x2, .int .i64 x3]) (.agg #[.int .i64 y0, .int .u64 y1, .string y2, .int .i64 y3])).run Tryd.prog w = .ok (x0 == y0 && (x1 == y1 && (x2.toList == y2.toList && (x3 == y3)))) w := by
  refine eqA_of Tryd.underlying98 (by kernel_rfl) ?_
  refine eqf_cons (by rfl) (by go_simp; rfl) (by go_simp; rfl) (by go_simp) ?_
  refine eqf_cons (by rfl) (by go_simp; rfl) (by go_simp; rfl) (by go_simp) ?_
  refine eqf_cons (by rfl) (by go_simp; rfl) (by go_simp; rfl) (by go_simp) ?_
  exact eqf_last (by rfl) (by go_simp; rfl) (by go_simp; rfl) (by go_simp)
end Go.Proofs.YtlhnkfheojlghaaDoor.Pr
end
section
namespace Go.Proofs.YtlhnkfheojlghaaDoor.Pr
open Go.RowKit Go.Proofs.YtlhnkfheojlghaaDoorW.PrintWords Go.Proofs.YtlhnkfheojlghaaDoorW.PrintLast Go.Proofs.YtlhnkfheojlghaaDoorW.PrintMore
attribute [local go_sem] max2_int min2_int max_two min_two max_three min_three max_four min_four
def minstrelref08_Normal.j0 : Nat → Bool → Int → Int → ByteArray → Int → Option (Int × Int × ByteArray × Int)
 | 0, _, _, _, _, _ => none
 | k + 1, x27, x139000, x139001, x139002, x139003 => if x27 = true then (some (x139000, 0, (⟨#[]⟩ : ByteArray), x139003)) else (if x139000 = 1 then (some (x139000, 0, (⟨#[]⟩ : ByteArray), 0)) else (if x139000 = 2 then (some (x139000, 0, (⟨#[]⟩ : ByteArray), 0)) else (some (0, 0, (⟨#[]⟩ : ByteArray), 0))))
def minstrelref08_Normal.f (k : Nat) (a0_0 : Int) (a0_1 : Int) (a0_2 : ByteArray) (a0_3 : Int) : Option (Int × Int × ByteArray × Int) := if a0_0 = 3 then ((minstrelref01_Canon.f k a0_1).bind fun t140 => (some (a0_0, t140, (⟨#[]⟩ : ByteArray), 0))) else (if a0_0 = 4 then (some (a0_0, 0, a0_2, 0)) else (if a0_0 ≥ 5 then (minstrelref08_Normal.j0 k (decide (a0_0 ≤ 8)) a0_0 a0_1 a0_2 a0_3) else (minstrelref08_Normal.j0 k false a0_0 a0_1 a0_2 a0_3)))
set_option maxHeartbeats 8000000 in
set_option maxRecDepth 100000 in
theorem minstrelref08_Normal.calls (k : Nat) (a0_0 : Int) (a0_1 : Int) (a0_2 : ByteArray) (a0_3 : Int) (r1 : Int) (r2 : Int) (r3 : ByteArray) (r4 : Int) (w : World) (h : minstrelref08_Normal.f k a0_0 a0_1 a0_2 a0_3 = some (r1, r2, r3, r4)) :
  Calls Tryd.prog 69 #[.agg #[.int .i64 a0_0, .int .u64 a0_1, .string a0_2, .int .i64 a0_3]] w fun e w' => e = .returned (.agg #[.int .i64 r1, .int .u64 r2, .string r3, .int .i64 r4]) ∧ Below w.heap.size w w' := by
 have hu98 := Tryd.underlying98
 have HB := am (Below.refl w.heap.size w)
 have H : (if a0_0 = 3 then ((minstrelref01_Canon.f k a0_1).bind fun t140 => (some (a0_0, t140, (⟨#[]⟩ : ByteArray), 0))) else (if a0_0 = 4 then (some (a0_0, 0, a0_2, 0)) else (if a0_0 ≥ 5 then (minstrelref08_Normal.j0 k (decide (a0_0 ≤ 8)) a0_0 a0_1 a0_2 a0_3) else (minstrelref08_Normal.j0 k false a0_0 a0_1 a0_2 a0_3)))) = some (r1, r2, r3, r4) := h
 clear h
 by_cases c2 : a0_0 = 3
 ·rw [if_pos c2] at H
  have c2b0 : (a0_0 == 3) = true := beq_iff_eq.mpr c2
  have c2b1 : (a0_0 != 3) = false := bne_eq_false_iff_eq.mpr c2
  clear c2
  replace H := Option.bind_eq_some_iff.mp H
  obtain ⟨t140, A30, H⟩ := H
  try dsimp only at H
  have A3 := am A30
  clear A30
  simp only [Option.some.injEq, Prod.mk.injEq] at H
  obtain ⟨rfl, rfl, rfl, rfl⟩ := H
  go_enter Tryd.func69, Tryd.ntmps69
  try go_wp2_with (first | ((with_reducible refine gate_dst (N := 1) rfl ?_); refine box_event ?hg (N := 1) ?hd (cs := #[.int .i64 a0_0, .int .u64 a0_1, .string a0_2, .int .i64 a0_3]) (t := 98) ?hr ?_; (case hd => rfl); (case hg => rfl); (case hr => first | (go_simp; done) | (go_simp; rfl)); intro gb138 hg w4 hbox hb; have BK138 := am (hbox); have GW138 := am ((by rw [hg]; exact (below_size pB) : w.heap.size ≤ gb138)); have GE138 := am ((by rw [hg]; exact (below_size pB) : w.heap.size ≤ gb138)); replace HB := am (below_step pB hb); clear hb hbox hg) | ((with_reducible refine gate_dst (N := 2) rfl ?_); refine box_event ?hg (N := 2) ?hd (cs := #[.int .i64 0, .int .u64 0, .string (⟨#[]⟩ : ByteArray), .int .i64 0]) (t := 98) ?hr ?_; (case hd => rfl); (case hg => rfl); (case hr => first | (go_simp; done) | (go_simp; rfl)); intro gb139 hg w5 hbox hb; have BK139 := am (hbox); have GW139 := am ((by rw [hg]; exact (below_size pB) : w.heap.size ≤ gb139)); have GE139 := am ((by rw [hg]; exact (below_size pB) : w.heap.size ≤ gb139)); have NB138_139 := am ((by rw [hg]; exact Nat.ne_of_lt (pkl BK138.out) : gb138 ≠ gb139)); have NB139_138 := am ((by rw [hg]; exact Nat.ne_of_gt (pkl BK138.out) : gb139 ≠ gb138)); replace BK138 := am (pkb BK138.out hb); replace HB := am (below_step pB hb); clear hb hbox hg; have hnb6 := NB138_139.out; have hnc6 := NB139_138.out; have q7 := cf4 BK138.out))
  replace BK138 := am (blk_drew BK138.out)
  replace BK139 := am (blk_drew BK139.out)
  replace HB := am (below_drew1 HB.out)
  refine start_ (n := 7) (S := fun w' => w'.cell? ⟨gb138, 0, none⟩ = some (.int .i64 a0_0) ∧ w'.cell? ⟨gb138, 1, none⟩ = some (.int .u64 a0_1) ∧ w'.cell? ⟨gb138, 2, none⟩ = some (.string a0_2) ∧ w'.cell? ⟨gb138, 3, none⟩ = some (.int .i64 a0_3)) (ds := []) (bm 7 0) (by kernel_rfl) rfl rfl ⟨cz0 BK138.out, cz1 BK138.out, cz2 BK138.out, cz3 BK138.out⟩ (fun hHeld => ?_)
  generalize w5.drew = w8 at BK138 BK139 HB hHeld ⊢
  refine pure_ (i := 0) (N := some 6) (v := ?_) (a' := ?_) (bm 7 1) rfl rfl (by kernel_rfl) (fun _ _ _ h => h) (Or.inl ⟨by kernel_rfl, ?_⟩) ?_ ?_
  rotate_left
  ·intro w'
   go_simp
   with_reducible rfl
  rotate_left
  ·exact pA
  refine pure_ (i := 2) (N := some 8) (v := ?_) (a' := ?_) (bm 7 5) rfl rfl (by kernel_rfl) (fun _ _ _ h => h) (Or.inl ⟨by kernel_rfl, ?_⟩) ?_ ?_
  rotate_left
  ·intro w'
   go_simp
   with_reducible rfl
  rotate_left
  ·exact pA
  refine take_ (i := 1) (N := some 7) (v := ?_) (a' := ?_) (bm 7 7) rfl rfl (by kernel_rfl) (fun _ _ _ h => h) (Or.inl ⟨by kernel_rfl, ?_⟩) hHeld ?_ ?_
  rotate_left
  ·rintro w' ⟨s0, s1, s2, s3⟩
   go_simp
   with_reducible rfl
  rotate_left
  ·exact pA
  refine take_ (i := 3) (N := some 9) (v := ?_) (a' := ?_) (bm 7 15) rfl rfl (by kernel_rfl) (fun _ _ _ h => h) (Or.inl ⟨by kernel_rfl, ?_⟩) hHeld ?_ ?_
  rotate_left
  ·rintro w' ⟨s0, s1, s2, s3⟩
   go_simp
   with_reducible rfl
  rotate_left
  ·exact pA
  refine one_ (i := 4) (N := some 10) (bm 7 31) rfl rfl (by kernel_rfl) (by decide) (fun K hK => ?_)
  refine goes_ Tryd.func79 (by kernel_rfl) rfl #[.int .u64 a0_1] (by rfl) rfl rfl pM ?_
  with_reducible refine (minstrelref01_Canon.calls k a0_1 t140 _ A3.out).mono ?_
  rintro e w' ⟨rfl, ⟨nd, rfl⟩⟩
  refine ⟨_, rfl, ?_⟩
  refine hK.out _ _ ⟨cz0 BK138.out, cz1 BK138.out, cz2 BK138.out, cz3 BK138.out⟩ (fun hHeld => ?_)
  clear hK K
  refine norm_ (a' := ?_) ?_ ?_
  rotate_left
  ·show Act.put _ (some 10) _ = _
   exact pA
  refine pure_ (i := 5) (N := some 11) (v := ?_) (a' := ?_) (bm 7 63) rfl rfl (by kernel_rfl) (fun _ _ _ h => h) (Or.inl ⟨by kernel_rfl, ?_⟩) ?_ ?_
  rotate_left
  ·intro w'
   go_simp
   with_reducible rfl
  rotate_left
  ·exact pA
  refine one_ (i := 6) (N := none) (bm 7 127) rfl rfl (by kernel_rfl) (by decide) (fun K hK => ?_)
  have hs9 : w8.cell? ⟨gb139, 0, none⟩ = some (.int .i64 0) := cz0 BK139.out
  have hfs9 := blk_frozen BK139.out 0
  have hns9_0 := NB138_139.out
  have hms9_0 := NB139_138.out
  have hs10 : w8.cell? ⟨gb139, 1, none⟩ = some (.int .u64 0) := cz1 BK139.out
  have hfs10 := blk_frozen BK139.out 1
  have hns10_0 := NB138_139.out
  have hms10_0 := NB139_138.out
  have hs11 : w8.cell? ⟨gb139, 2, none⟩ = some (.string (⟨#[]⟩ : ByteArray)) := cz2 BK139.out
  have hfs11 := blk_frozen BK139.out 2
  have hns11_0 := NB138_139.out
  have hms11_0 := NB139_138.out
  have hs12 : w8.cell? ⟨gb139, 3, none⟩ = some (.int .i64 0) := cz3 BK139.out
  have hfs12 := blk_frozen BK139.out 3
  have hns12_0 := NB138_139.out
  have hms12_0 := NB139_138.out
  refine skip_ (w1 := ?_) ?hw rfl ?_ ?_; (case hw => kernel_rfl)
  rotate_left
  ·go_simp
   rfl
  refine hK.out _ _ ⟨(by (repeat (with_reducible refine (cell_far (p := ⟨gb139, _, none⟩) NB138_139.out _).trans ?_)); exact hHeld.1), (by (repeat (with_reducible refine (cell_far (p := ⟨gb139, _, none⟩) NB138_139.out _).trans ?_)); exact hHeld.2.1), (by (repeat (with_reducible refine (cell_far (p := ⟨gb139, _, none⟩) NB138_139.out _).trans ?_)); exact hHeld.2.2.1), (by (repeat (with_reducible refine (cell_far (p := ⟨gb139, _, none⟩) NB138_139.out _).trans ?_)); exact hHeld.2.2.2)⟩ (fun hHeld => ?_)
  clear hK K
  refine done_ (by kernel_rfl) ?_
  try go_wp2
  refine bodyPost_ret (results_cell_row rfl _ _ gb139 98 #[.int .i64 a0_0, .int .u64 t140, .string (⟨#[]⟩ : ByteArray), .int .i64 0] (0, 0) _ rfl (by (iterate 2 ((with_reducible repeat (first | refine blk_drewN ?_ _ | refine blk_drew ?_ | refine blk_alloc ?_ _)); refine blk_put (cs := #[.int .i64 a0_0, .int .u64 t140, .string (⟨#[]⟩ : ByteArray), .int .i64 0]) ?_ _ _ rfl)); (with_reducible repeat (first | refine blk_drewN ?_ _ | refine blk_drew ?_ | refine blk_alloc ?_ _)); refine blk_put (cs := #[.int .i64 a0_0, .int .u64 0, .string (⟨#[]⟩ : ByteArray), .int .i64 0]) ?_ 1 _ rfl; (with_reducible repeat (first | refine blk_drewN ?_ _ | refine blk_drew ?_ | refine blk_alloc ?_ _)); refine blk_put (cs := #[.int .i64 0, .int .u64 0, .string (⟨#[]⟩ : ByteArray), .int .i64 0]) ?_ 0 _ rfl; (with_reducible repeat (first | refine blk_drewN ?_ _ | refine blk_drew ?_ | refine blk_alloc ?_ _)); exact BK139.out) Tryd.underlying98 rfl (by kernel_rfl)) rfl ?_
  exact ⟨pE, pB⟩
 ·rw [if_neg c2] at H
  have c2b0 : (a0_0 == 3) = false := beq_eq_false_iff_ne.mpr c2
  have c2b1 : (a0_0 != 3) = true := bne_iff_ne.mpr c2
  by_cases c13 : a0_0 = 4
  ·rw [if_pos c13] at H
   have c13b0 : (a0_0 == 4) = true := beq_iff_eq.mpr c13
   have c13b1 : (a0_0 != 4) = false := bne_eq_false_iff_eq.mpr c13
   clear c13
   simp only [Option.some.injEq, Prod.mk.injEq] at H
   obtain ⟨rfl, rfl, rfl, rfl⟩ := H
   go_enter Tryd.func69, Tryd.ntmps69
   go_wp2_with (first | ((with_reducible refine gate_dst (N := 1) rfl ?_); refine box_event ?hg (N := 1) ?hd (cs := #[.int .i64 a0_0, .int .u64 a0_1, .string a0_2, .int .i64 a0_3]) (t := 98) ?hr ?_; (case hd => rfl); (case hg => rfl); (case hr => first | (go_simp; done) | (go_simp; rfl)); intro gb138 hg w14 hbox hb; have BK138 := am (hbox); have GW138 := am ((by rw [hg]; exact (below_size pB) : w.heap.size ≤ gb138)); have GE138 := am ((by rw [hg]; exact (below_size pB) : w.heap.size ≤ gb138)); replace HB := am (below_step pB hb); clear hb hbox hg) | ((with_reducible refine gate_dst (N := 2) rfl ?_); refine box_event ?hg (N := 2) ?hd (cs := #[.int .i64 0, .int .u64 0, .string (⟨#[]⟩ : ByteArray), .int .i64 0]) (t := 98) ?hr ?_; (case hd => rfl); (case hg => rfl); (case hr => first | (go_simp; done) | (go_simp; rfl)); intro gb139 hg w15 hbox hb; have BK139 := am (hbox); have GW139 := am ((by rw [hg]; exact (below_size pB) : w.heap.size ≤ gb139)); have GE139 := am ((by rw [hg]; exact (below_size pB) : w.heap.size ≤ gb139)); have NB138_139 := am ((by rw [hg]; exact Nat.ne_of_lt (pkl BK138.out) : gb138 ≠ gb139)); have NB139_138 := am ((by rw [hg]; exact Nat.ne_of_gt (pkl BK138.out) : gb139 ≠ gb138)); replace BK138 := am (pkb BK138.out hb); replace HB := am (below_step pB hb); clear hb hbox hg; have hnb16 := NB138_139.out; have hnc16 := NB139_138.out; have q17 := cf4 BK138.out; have q18 := cf4 BK139.out))
   refine bodyPost_ret (results_cell_row rfl _ _ gb139 98 #[.int .i64 a0_0, .int .u64 0, .string a0_2, .int .i64 0] (0, 0) _ rfl (by (with_reducible repeat (first | refine blk_drewN ?_ _ | refine blk_drew ?_ | refine blk_alloc ?_ _)); refine blk_put (cs := #[.int .i64 a0_0, .int .u64 0, .string a0_2, .int .i64 0]) ?_ 3 _ rfl; (iterate 2 ((with_reducible repeat (first | refine blk_drewN ?_ _ | refine blk_drew ?_ | refine blk_alloc ?_ _)); refine blk_put (cs := #[.int .i64 a0_0, .int .u64 0, .string (⟨#[]⟩ : ByteArray), .int .i64 0]) ?_ _ _ rfl)); (with_reducible repeat (first | refine blk_drewN ?_ _ | refine blk_drew ?_ | refine blk_alloc ?_ _)); refine blk_put (cs := #[.int .i64 0, .int .u64 0, .string (⟨#[]⟩ : ByteArray), .int .i64 0]) ?_ 0 _ rfl; (with_reducible repeat (first | refine blk_drewN ?_ _ | refine blk_drew ?_ | refine blk_alloc ?_ _)); exact BK139.out) Tryd.underlying98 rfl (by kernel_rfl)) rfl ?_
   exact ⟨pE, pB⟩
  ·rw [if_neg c13] at H
   have c13b0 : (a0_0 == 4) = false := beq_eq_false_iff_ne.mpr c13
   have c13b1 : (a0_0 != 4) = true := bne_iff_ne.mpr c13
   have HC19 := am H
   clear H
   go_enter Tryd.func69, Tryd.ntmps69
   go_upto_region 5 with (first | ((with_reducible refine gate_dst (N := 1) rfl ?_); refine box_event ?hg (N := 1) ?hd (cs := #[.int .i64 a0_0, .int .u64 a0_1, .string a0_2, .int .i64 a0_3]) (t := 98) ?hr ?_; (case hd => rfl); (case hg => rfl); (case hr => first | (go_simp; done) | (go_simp; rfl)); intro gb138 hg w20 hbox hb; have BK138 := am (hbox); have GW138 := am ((by rw [hg]; exact (below_size pB) : w.heap.size ≤ gb138)); have GE138 := am ((by rw [hg]; exact (below_size pB) : w.heap.size ≤ gb138)); replace HB := am (below_step pB hb); clear hb hbox hg) | ((with_reducible refine gate_dst (N := 2) rfl ?_); refine box_event ?hg (N := 2) ?hd (cs := #[.int .i64 0, .int .u64 0, .string (⟨#[]⟩ : ByteArray), .int .i64 0]) (t := 98) ?hr ?_; (case hd => rfl); (case hg => rfl); (case hr => first | (go_simp; done) | (go_simp; rfl)); intro gb139 hg w21 hbox hb; have BK139 := am (hbox); have GW139 := am ((by rw [hg]; exact (below_size pB) : w.heap.size ≤ gb139)); have GE139 := am ((by rw [hg]; exact (below_size pB) : w.heap.size ≤ gb139)); have NB138_139 := am ((by rw [hg]; exact Nat.ne_of_lt (pkl BK138.out) : gb138 ≠ gb139)); have NB139_138 := am ((by rw [hg]; exact Nat.ne_of_gt (pkl BK138.out) : gb139 ≠ gb138)); replace BK138 := am (pkb BK138.out hb); replace HB := am (below_step pB hb); clear hb hbox hg; have hnb22 := NB138_139.out; have hnc22 := NB139_138.out; have q23 := cf4 BK138.out))
   (try simp only [Act.put, List.setIfInBounds_toArray, List.set_cons_zero, List.set_cons_succ])
   go_cut [27] (fun v27 wc => ∃ (kq : Nat) (x27_18 : Bool), v27 = .bool x27_18 ∧ Aside0 (minstrelref08_Normal.j0 kq x27_18 a0_0 a0_1 a0_2 a0_3 = some (r1, r2, r3, r4)) ∧ Aside0 (kq ≤ k) ∧ Aside0 (wc.heap[gb138]? = some (.cells #[.int .i64 a0_0, .int .u64 a0_1, .string a0_2, .int .i64 a0_3] 98 (0, 0))) ∧ Aside0 (wc.heap[gb139]? = some (.cells #[.int .i64 0, .int .u64 0, .string (⟨#[]⟩ : ByteArray), .int .i64 0] 98 (0, 0))) ∧ Aside0 (Below w.heap.size w wc))
   case first =>
    have H := HC19.out
    clear HC19
    by_cases c24 : a0_0 ≥ 5
    ·rw [if_pos c24] at H
     have c24b0 : decide (5 ≤ a0_0) = true := decide_eq_true c24
     clear c24
     (first | rw [c24b0] | (simp only [i64_w, i32_w]; rw [c24b0]) | rw [c24b1] | (simp only [i64_w, i32_w]; rw [c24b1]) | skip)
     have H' := am H
     clear H
     have hnb25 := NB138_139.out
     have hnc25 := NB139_138.out
     have q26 := cf4 BK138.out
     go_wp2
     go_meet
     case rel => exact ⟨_, (decide (a0_0 ≤ 8)), (by first | rfl | (simp; done) | (simp [*]; done)), H', ⟨by first | omega | exact Nat.le_refl _⟩, ⟨by (with_reducible repeat (first | refine blk_drewN ?_ _ | refine blk_drew ?_ | refine blk_alloc ?_ _)); exact BK138.out⟩, ⟨by (with_reducible repeat (first | refine blk_drewN ?_ _ | refine blk_drew ?_ | refine blk_alloc ?_ _)); exact BK139.out⟩, ⟨pB⟩⟩
    ·rw [if_neg c24] at H
     have c24b0 : decide (5 ≤ a0_0) = false := decide_eq_false c24
     clear c24
     (first | rw [c24b0] | (simp only [i64_w, i32_w]; rw [c24b0]) | rw [c24b1] | (simp only [i64_w, i32_w]; rw [c24b1]) | skip)
     have H' := am H
     clear H
     have hnb27 := NB138_139.out
     have hnc27 := NB139_138.out
     have q28 := cf4 BK138.out
     go_wp2
     go_meet
     case rel => exact ⟨_, (false), (by first | rfl | (simp; done) | (simp [*]; done)), H', ⟨by first | omega | exact Nat.le_refl _⟩, ⟨by (with_reducible repeat (first | refine blk_drewN ?_ _ | refine blk_drew ?_ | refine blk_alloc ?_ _)); exact BK138.out⟩, ⟨by (with_reducible repeat (first | refine blk_drewN ?_ _ | refine blk_drew ?_ | refine blk_alloc ?_ _)); exact BK139.out⟩, ⟨pB⟩⟩
   case rest =>
    clear HC19
    try clear c1
    try clear c2
    try clear c2b0
    try clear c2b1
    try clear p2
    try clear c6
    try clear c7
    try clear c13
    try clear c13b0
    try clear c13b1
    try clear c16
    try clear c22
    try clear c24
    try clear c24b0
    try clear c24b1
    try clear c25
    try clear c27
    try clear q17 q18 q23 q26 q28 q7
    obtain ⟨kq, x27_18, rfl, HA, HJ18, BK138, BK139, HB⟩ := hcut
    cases kq with
    | zero => exact absurd HA.out (by simp [minstrelref08_Normal.j0])
    | succ kj18 =>
     have H := HA.out
     clear HA
     simp only [minstrelref08_Normal.j0] at H
     by_cases c29 : x27_18 = true
     ·subst c29
      rw [if_pos rfl] at H
      simp only [Option.some.injEq, Prod.mk.injEq] at H
      obtain ⟨rfl, rfl, rfl, rfl⟩ := H
      have hnb30 := NB138_139.out
      have hnc30 := NB139_138.out
      have q31 := cf4 BK138.out
      have q32 := cf4 BK139.out
      go_wp2
      refine bodyPost_ret (results_cell_row rfl _ _ gb139 98 #[.int .i64 a0_0, .int .u64 0, .string (⟨#[]⟩ : ByteArray), .int .i64 a0_3] (0, 0) _ rfl (by (iterate 3 ((with_reducible repeat (first | refine blk_drewN ?_ _ | refine blk_drew ?_ | refine blk_alloc ?_ _)); refine blk_put (cs := #[.int .i64 a0_0, .int .u64 0, .string (⟨#[]⟩ : ByteArray), .int .i64 0]) ?_ _ _ rfl)); (with_reducible repeat (first | refine blk_drewN ?_ _ | refine blk_drew ?_ | refine blk_alloc ?_ _)); refine blk_put (cs := #[.int .i64 0, .int .u64 0, .string (⟨#[]⟩ : ByteArray), .int .i64 0]) ?_ 0 _ rfl; (with_reducible repeat (first | refine blk_drewN ?_ _ | refine blk_drew ?_ | refine blk_alloc ?_ _)); exact BK139.out) Tryd.underlying98 rfl (by kernel_rfl)) rfl ?_
      exact ⟨pE, pB⟩
     ·replace c29 := Bool.eq_false_iff.mpr c29
      subst c29
      rw [if_neg (show ¬ (false = true) by decide)] at H
      by_cases c33 : a0_0 = 1
      ·rw [if_pos c33] at H
       have c33b0 : (a0_0 == 1) = true := beq_iff_eq.mpr c33
       have c33b1 : (a0_0 != 1) = false := bne_eq_false_iff_eq.mpr c33
       clear c33
       simp only [Option.some.injEq, Prod.mk.injEq] at H
       obtain ⟨rfl, rfl, rfl, rfl⟩ := H
       have hnb34 := NB138_139.out
       have hnc34 := NB139_138.out
       have q35 := cf4 BK138.out
       have q36 := cf4 BK139.out
       go_wp2
       refine bodyPost_ret (results_cell_row rfl _ _ gb139 98 #[.int .i64 a0_0, .int .u64 0, .string (⟨#[]⟩ : ByteArray), .int .i64 0] (0, 0) _ rfl (by (iterate 3 ((with_reducible repeat (first | refine blk_drewN ?_ _ | refine blk_drew ?_ | refine blk_alloc ?_ _)); refine blk_put (cs := #[.int .i64 a0_0, .int .u64 0, .string (⟨#[]⟩ : ByteArray), .int .i64 0]) ?_ _ _ rfl)); (with_reducible repeat (first | refine blk_drewN ?_ _ | refine blk_drew ?_ | refine blk_alloc ?_ _)); refine blk_put (cs := #[.int .i64 0, .int .u64 0, .string (⟨#[]⟩ : ByteArray), .int .i64 0]) ?_ 0 _ rfl; (with_reducible repeat (first | refine blk_drewN ?_ _ | refine blk_drew ?_ | refine blk_alloc ?_ _)); exact BK139.out) Tryd.underlying98 rfl (by kernel_rfl)) rfl ?_
       exact ⟨pE, pB⟩
      ·rw [if_neg c33] at H
       have c33b0 : (a0_0 == 1) = false := beq_eq_false_iff_ne.mpr c33
       have c33b1 : (a0_0 != 1) = true := bne_iff_ne.mpr c33
       by_cases c37 : a0_0 = 2
       ·rw [if_pos c37] at H
        have c37b0 : (a0_0 == 2) = true := beq_iff_eq.mpr c37
        have c37b1 : (a0_0 != 2) = false := bne_eq_false_iff_eq.mpr c37
        clear c37
        simp only [Option.some.injEq, Prod.mk.injEq] at H
        obtain ⟨rfl, rfl, rfl, rfl⟩ := H
        have hnb38 := NB138_139.out
        have hnc38 := NB139_138.out
        have q39 := cf4 BK138.out
        have q40 := cf4 BK139.out
        go_wp2
        refine bodyPost_ret (results_cell_row rfl _ _ gb139 98 #[.int .i64 a0_0, .int .u64 0, .string (⟨#[]⟩ : ByteArray), .int .i64 0] (0, 0) _ rfl (by (iterate 3 ((with_reducible repeat (first | refine blk_drewN ?_ _ | refine blk_drew ?_ | refine blk_alloc ?_ _)); refine blk_put (cs := #[.int .i64 a0_0, .int .u64 0, .string (⟨#[]⟩ : ByteArray), .int .i64 0]) ?_ _ _ rfl)); (with_reducible repeat (first | refine blk_drewN ?_ _ | refine blk_drew ?_ | refine blk_alloc ?_ _)); refine blk_put (cs := #[.int .i64 0, .int .u64 0, .string (⟨#[]⟩ : ByteArray), .int .i64 0]) ?_ 0 _ rfl; (with_reducible repeat (first | refine blk_drewN ?_ _ | refine blk_drew ?_ | refine blk_alloc ?_ _)); exact BK139.out) Tryd.underlying98 rfl (by kernel_rfl)) rfl ?_
        exact ⟨pE, pB⟩
       ·rw [if_neg c37] at H
        have c37b0 : (a0_0 == 2) = false := beq_eq_false_iff_ne.mpr c37
        have c37b1 : (a0_0 != 2) = true := bne_iff_ne.mpr c37
        simp only [Option.some.injEq, Prod.mk.injEq] at H
        obtain ⟨rfl, rfl, rfl, rfl⟩ := H
        have hnb41 := NB138_139.out
        have hnc41 := NB139_138.out
        have q42 := cf4 BK138.out
        have q43 := cf4 BK139.out
        go_wp2
        refine bodyPost_ret (results_cell_row rfl _ _ gb139 98 #[.int .i64 0, .int .u64 0, .string (⟨#[]⟩ : ByteArray), .int .i64 0] (0, 0) _ rfl (by (iterate 4 ((with_reducible repeat (first | refine blk_drewN ?_ _ | refine blk_drew ?_ | refine blk_alloc ?_ _)); refine blk_put (cs := #[.int .i64 0, .int .u64 0, .string (⟨#[]⟩ : ByteArray), .int .i64 0]) ?_ _ _ rfl)); (with_reducible repeat (first | refine blk_drewN ?_ _ | refine blk_drew ?_ | refine blk_alloc ?_ _)); exact BK139.out) Tryd.underlying98 rfl (by kernel_rfl)) rfl ?_
        exact ⟨pE, pB⟩
end Go.Proofs.YtlhnkfheojlghaaDoor.Pr
end
section
namespace Go.Proofs.YtlhnkfheojlghaaDoor.Pr
open Go.RowKit Go.Proofs.YtlhnkfheojlghaaDoorW.PrintWords Go.Proofs.YtlhnkfheojlghaaDoorW.PrintLast Go.Proofs.YtlhnkfheojlghaaDoorW.PrintMore
attribute [local go_sem] max2_int min2_int max_two min_two max_three min_three max_four min_four
mutual
def minstrelref13_Uses.j0 : Nat → Int → Bool → Option (ByteArray)
 | 0, _, _ => none
 | k + 1, x3, x4 => if x4 = true then (some (⟨#[82, 75]⟩ : ByteArray)) else (if x3 = 3 then (minstrelref13_Uses.j1 k x3 (x3 == 3)) else (if x3 = 13 then (minstrelref13_Uses.j1 k x3 (x3 == 13)) else (minstrelref13_Uses.j1 k x3 (x3 == 33))))
def minstrelref13_Uses.j1 : Nat → Int → Bool → Option (ByteArray)
 | 0, _, _ => none
 | k + 1, x3, x7 => if x7 = true then (some (⟨#[82]⟩ : ByteArray)) else (if x3 = 1 then (minstrelref13_Uses.j2 k x3 (x3 == 1)) else (if x3 = 2 then (minstrelref13_Uses.j2 k x3 (x3 == 2)) else (if x3 = 4 then (minstrelref13_Uses.j2 k x3 (x3 == 4)) else (if x3 = 5 then (minstrelref13_Uses.j2 k x3 (x3 == 5)) else (if x3 = 6 then (minstrelref13_Uses.j2 k x3 (x3 == 6)) else (if x3 = 14 then (minstrelref13_Uses.j2 k x3 (x3 == 14)) else (if x3 = 15 then (minstrelref13_Uses.j2 k x3 (x3 == 15)) else (minstrelref13_Uses.j2 k x3 (x3 == 16)))))))))
def minstrelref13_Uses.j2 : Nat → Int → Bool → Option (ByteArray)
 | 0, _, _ => none
 | k + 1, x3, x11 => if x11 = true then (some (⟨#[82, 82]⟩ : ByteArray)) else (if x3 = 7 then (some (⟨#[82, 85]⟩ : ByteArray)) else (if x3 = 8 then (some (⟨#[85, 82]⟩ : ByteArray)) else (if x3 = 10 then (some (⟨#[75, 82]⟩ : ByteArray)) else (if x3 = 29 then (some (⟨#[79]⟩ : ByteArray)) else (if x3 = 30 then (minstrelref13_Uses.j3 k x3 (x3 == 30)) else (if x3 = 31 then (minstrelref13_Uses.j3 k x3 (x3 == 31)) else (if x3 = 36 then (minstrelref13_Uses.j3 k x3 (x3 == 36)) else (minstrelref13_Uses.j3 k x3 (x3 == 37)))))))))
def minstrelref13_Uses.j3 : Nat → Int → Bool → Option (ByteArray)
 | 0, _, _ => none
 | k + 1, x3, x28 => if x28 = true then (some (⟨#[82, 79]⟩ : ByteArray)) else (if x3 = 32 then (some (⟨#[82, 78]⟩ : ByteArray)) else (if x3 = 35 then (some (⟨#[82, 80]⟩ : ByteArray)) else (if x3 = 34 then (some (⟨#[]⟩ : ByteArray)) else (some (⟨#[82, 82, 82]⟩ : ByteArray)))))
end
def minstrelref13_Uses.f (k : Nat) (a0 : Int) : Option (ByteArray) := if a0 = 0 then (minstrelref13_Uses.j0 k a0 (a0 == 0)) else (minstrelref13_Uses.j0 k a0 (a0 == 9))
theorem minstrelref13_Uses.mono_l : ∀ k, (∀ y0 y1, LeO (minstrelref13_Uses.j0 k y0 y1) (minstrelref13_Uses.j0 (k + 1) y0 y1)) ∧ (∀ y0 y1, LeO (minstrelref13_Uses.j1 k y0 y1) (minstrelref13_Uses.j1 (k + 1) y0 y1)) ∧ (∀ y0 y1, LeO (minstrelref13_Uses.j2 k y0 y1) (minstrelref13_Uses.j2 (k + 1) y0 y1)) ∧ (∀ y0 y1, LeO (minstrelref13_Uses.j3 k y0 y1) (minstrelref13_Uses.j3 (k + 1) y0 y1))
 | 0 => ⟨fun _ _ r h => by simp [minstrelref13_Uses.j0] at h, fun _ _ r h => by simp [minstrelref13_Uses.j1] at h, fun _ _ r h => by simp [minstrelref13_Uses.j2] at h, fun _ _ r h => by simp [minstrelref13_Uses.j3] at h⟩
 | k + 1 => by
  obtain ⟨ih0, ih1, ih2, ih3⟩ := minstrelref13_Uses.mono_l k
  refine ⟨?_, ?_, ?_, ?_⟩
  ·intro y0 y1
   unfold minstrelref13_Uses.j0
   repeat' first
   | (with_reducible exact ih0 _ _)
   | (with_reducible exact ih1 _ _)
   | (with_reducible exact ih2 _ _)
   | (with_reducible exact ih3 _ _)
   | (with_reducible exact LeO.refl _)
   | (with_reducible exact LeO.none _)
   | (with_reducible refine LeO.ite ?_ ?_)
   | (with_reducible refine LeO.bind ?_ (fun _ => ?_))
   | exact ih0 _ _
   | exact ih1 _ _
   | exact ih2 _ _
   | exact ih3 _ _
   | exact LeO.none _
   | refine LeO.ite ?_ ?_
   | refine LeO.bind ?_ (fun _ => ?_)
  ·intro y0 y1
   unfold minstrelref13_Uses.j1
   repeat' first
   | (with_reducible exact ih0 _ _)
   | (with_reducible exact ih1 _ _)
   | (with_reducible exact ih2 _ _)
   | (with_reducible exact ih3 _ _)
   | (with_reducible exact LeO.refl _)
   | (with_reducible exact LeO.none _)
   | (with_reducible refine LeO.ite ?_ ?_)
   | (with_reducible refine LeO.bind ?_ (fun _ => ?_))
   | exact ih0 _ _
   | exact ih1 _ _
   | exact ih2 _ _
   | exact ih3 _ _
   | exact LeO.none _
   | refine LeO.ite ?_ ?_
   | refine LeO.bind ?_ (fun _ => ?_)
  ·intro y0 y1
   unfold minstrelref13_Uses.j2
   repeat' first
   | (with_reducible exact ih0 _ _)
   | (with_reducible exact ih1 _ _)
   | (with_reducible exact ih2 _ _)
   | (with_reducible exact ih3 _ _)
   | (with_reducible exact LeO.refl _)
   | (with_reducible exact LeO.none _)
   | (with_reducible refine LeO.ite ?_ ?_)
   | (with_reducible refine LeO.bind ?_ (fun _ => ?_))
   | exact ih0 _ _
   | exact ih1 _ _
   | exact ih2 _ _
   | exact ih3 _ _
   | exact LeO.none _
   | refine LeO.ite ?_ ?_
   | refine LeO.bind ?_ (fun _ => ?_)
  ·intro y0 y1
   unfold minstrelref13_Uses.j3
   repeat' first
   | (with_reducible exact ih0 _ _)
   | (with_reducible exact ih1 _ _)
   | (with_reducible exact ih2 _ _)
   | (with_reducible exact ih3 _ _)
   | (with_reducible exact LeO.refl _)
   | (with_reducible exact LeO.none _)
   | (with_reducible refine LeO.ite ?_ ?_)
   | (with_reducible refine LeO.bind ?_ (fun _ => ?_))
   | exact ih0 _ _
   | exact ih1 _ _
   | exact ih2 _ _
   | exact ih3 _ _
   | exact LeO.none _
   | refine LeO.ite ?_ ?_
   | refine LeO.bind ?_ (fun _ => ?_)
theorem minstrelref13_Uses.mono : ∀ a0 k, LeO (minstrelref13_Uses.f k a0) (minstrelref13_Uses.f (k + 1) a0) := by
 intro a0 k
 obtain ⟨ih0, ih1, ih2, ih3⟩ := minstrelref13_Uses.mono_l k
 unfold minstrelref13_Uses.f
 repeat' first
   | (with_reducible exact ih0 _ _)
   | (with_reducible exact ih1 _ _)
   | (with_reducible exact ih2 _ _)
   | (with_reducible exact ih3 _ _)
   | (with_reducible exact LeO.refl _)
   | (with_reducible exact LeO.none _)
   | (with_reducible refine LeO.ite ?_ ?_)
   | (with_reducible refine LeO.bind ?_ (fun _ => ?_))
   | exact ih0 _ _
   | exact ih1 _ _
   | exact ih2 _ _
   | exact ih3 _ _
   | exact LeO.none _
   | refine LeO.ite ?_ ?_
   | refine LeO.bind ?_ (fun _ => ?_)
set_option maxHeartbeats 8000000 in
set_option maxRecDepth 100000 in
theorem minstrelref13_Uses.calls (k : Nat) (a0 : Int) (r : ByteArray) (w : World) (h : minstrelref13_Uses.f k a0 = some r) :
  Calls Tryd.prog 16 #[.int .i64 a0] w fun e w' => e = .returned (.string r) ∧ Drawn0 w w' := by
 have H : (if a0 = 0 then (minstrelref13_Uses.j0 k a0 (a0 == 0)) else (minstrelref13_Uses.j0 k a0 (a0 == 9))) = some r := h
 clear h
 have HC2 := am H
 clear H
 go_enter Tryd.func16, Tryd.ntmps16
 go_upto_if 4 with (fail)
 go_cut [4] (fun v4 wc => ∃ (kq : Nat) (x4_1 : Bool), v4 = .bool x4_1 ∧ Aside0 (minstrelref13_Uses.j0 kq a0 x4_1 = some r) ∧ Aside0 (kq ≤ k) ∧ Drawn0 w wc)
 case first =>
  have H := HC2.out
  clear HC2
  by_cases c3 : a0 = 0
  ·rw [if_pos c3] at H
   have c3b0 : (a0 == 0) = true := beq_iff_eq.mpr c3
   have c3b1 : (a0 != 0) = false := bne_eq_false_iff_eq.mpr c3
   clear c3
   (first | rw [c3b0] | (simp only [i64_w, i32_w]; rw [c3b0]) | rw [c3b1] | (simp only [i64_w, i32_w]; rw [c3b1]) | skip)
   have H' := am H
   clear H
   go_wp2
   go_meet
   case rel => exact ⟨_, ((a0 == 0)), (by first | rfl | (simp; done) | (simp [*]; done)), H', ⟨by first | omega | exact Nat.le_refl _⟩, by repeat (first | exact Drawn0.refl _ | apply Drawn0.step)⟩
  ·rw [if_neg c3] at H
   have c3b0 : (a0 == 0) = false := beq_eq_false_iff_ne.mpr c3
   have c3b1 : (a0 != 0) = true := bne_iff_ne.mpr c3
   (first | rw [c3b0] | (simp only [i64_w, i32_w]; rw [c3b0]) | rw [c3b1] | (simp only [i64_w, i32_w]; rw [c3b1]) | skip)
   have H' := am H
   clear H
   go_wp2
   go_meet
   case rel => exact ⟨_, ((a0 == 9)), (by first | rfl | (simp; done) | (simp [*]; done)), H', ⟨by first | omega | exact Nat.le_refl _⟩, by repeat (first | exact Drawn0.refl _ | apply Drawn0.step)⟩
 case rest =>
  clear HC2
  try clear c1
  try clear p2
  try clear c3
  try clear c3b0
  try clear c3b1
  obtain ⟨kq, x4_1, rfl, HA, HJ1, ⟨mc1, rfl⟩⟩ := hcut
  cases kq with
  | zero => exact absurd HA.out (by simp [minstrelref13_Uses.j0])
  | succ kj1 =>
   have H := HA.out
   clear HA
   simp only [minstrelref13_Uses.j0] at H
   by_cases c4 : x4_1 = true
   ·subst c4
    rw [if_pos rfl] at H
    obtain rfl := Option.some.inj H
    go_wp2
    go_ret
    exact ⟨by first | rfl | (simp; done) | (simp [*]; done), by repeat (first | exact Drawn0.refl _ | apply Drawn0.step)⟩
   ·replace c4 := Bool.eq_false_iff.mpr c4
    subst c4
    rw [if_neg (show ¬ (false = true) by decide)] at H
    have HC5 := am H
    clear H
    go_upto_if 7 with (fail)
    go_cut [7] (fun v7 wc => ∃ (kq : Nat) (x7_4 : Bool), v7 = .bool x7_4 ∧ Aside0 (minstrelref13_Uses.j1 kq a0 x7_4 = some r) ∧ Aside0 (kq ≤ kj1) ∧ Drawn0 w wc)
    case first =>
     have H := HC5.out
     clear HC5
     by_cases c6 : a0 = 3
     ·rw [if_pos c6] at H
      have c6b0 : (a0 == 3) = true := beq_iff_eq.mpr c6
      have c6b1 : (a0 != 3) = false := bne_eq_false_iff_eq.mpr c6
      clear c6
      (first | rw [c6b0] | (simp only [i64_w, i32_w]; rw [c6b0]) | rw [c6b1] | (simp only [i64_w, i32_w]; rw [c6b1]) | skip)
      have H' := am H
      clear H
      go_wp2
      go_meet
      case rel => exact ⟨_, ((a0 == 3)), (by first | rfl | (simp; done) | (simp [*]; done)), H', ⟨by have := HJ1.out; first | omega | exact Nat.le_refl _⟩, by repeat (first | exact Drawn0.refl _ | apply Drawn0.step)⟩
     ·rw [if_neg c6] at H
      have c6b0 : (a0 == 3) = false := beq_eq_false_iff_ne.mpr c6
      have c6b1 : (a0 != 3) = true := bne_iff_ne.mpr c6
      (first | rw [c6b0] | (simp only [i64_w, i32_w]; rw [c6b0]) | rw [c6b1] | (simp only [i64_w, i32_w]; rw [c6b1]) | skip)
      by_cases c7 : a0 = 13
      ·rw [if_pos c7] at H
       have c7b0 : (a0 == 13) = true := beq_iff_eq.mpr c7
       have c7b1 : (a0 != 13) = false := bne_eq_false_iff_eq.mpr c7
       clear c7
       have H' := am H
       clear H
       go_wp2
       go_meet
       case rel => exact ⟨_, ((a0 == 13)), (by first | rfl | (simp; done) | (simp [*]; done)), H', ⟨by have := HJ1.out; first | omega | exact Nat.le_refl _⟩, by repeat (first | exact Drawn0.refl _ | apply Drawn0.step)⟩
      ·rw [if_neg c7] at H
       have c7b0 : (a0 == 13) = false := beq_eq_false_iff_ne.mpr c7
       have c7b1 : (a0 != 13) = true := bne_iff_ne.mpr c7
       have H' := am H
       clear H
       go_wp2
       go_meet
       case rel => exact ⟨_, ((a0 == 33)), (by first | rfl | (simp; done) | (simp [*]; done)), H', ⟨by have := HJ1.out; first | omega | exact Nat.le_refl _⟩, by repeat (first | exact Drawn0.refl _ | apply Drawn0.step)⟩
    case rest =>
     clear HC5
     try clear c1
     try clear p2
     try clear c3
     try clear c3b0
     try clear c3b1
     try clear c4
     try clear c6
     try clear c6b0
     try clear c6b1
     try clear c7
     try clear c7b0
     try clear c7b1
     try clear p2
     obtain ⟨kq, x7_4, rfl, HA, HJ4, ⟨mc4, rfl⟩⟩ := hcut
     cases kq with
     | zero => exact absurd HA.out (by simp [minstrelref13_Uses.j1])
     | succ kj4 =>
      have H := HA.out
      clear HA
      simp only [minstrelref13_Uses.j1] at H
      by_cases c8 : x7_4 = true
      ·subst c8
       rw [if_pos rfl] at H
       obtain rfl := Option.some.inj H
       go_wp2
       go_ret
       exact ⟨by first | rfl | (simp; done) | (simp [*]; done), by repeat (first | exact Drawn0.refl _ | apply Drawn0.step)⟩
      ·replace c8 := Bool.eq_false_iff.mpr c8
       subst c8
       rw [if_neg (show ¬ (false = true) by decide)] at H
       have HC9 := am H
       clear H
       go_upto_if 11 with (fail)
       go_cut [11] (fun v11 wc => ∃ (kq : Nat) (x11_8 : Bool), v11 = .bool x11_8 ∧ Aside0 (minstrelref13_Uses.j2 kq a0 x11_8 = some r) ∧ Aside0 (kq ≤ kj4) ∧ Drawn0 w wc)
       case first =>
        have H := HC9.out
        clear HC9
        by_cases c10 : a0 = 1
        ·rw [if_pos c10] at H
         have c10b0 : (a0 == 1) = true := beq_iff_eq.mpr c10
         have c10b1 : (a0 != 1) = false := bne_eq_false_iff_eq.mpr c10
         clear c10
         (first | rw [c10b0] | (simp only [i64_w, i32_w]; rw [c10b0]) | rw [c10b1] | (simp only [i64_w, i32_w]; rw [c10b1]) | skip)
         have H' := am H
         clear H
         go_wp2
         go_meet
         case rel => exact ⟨_, ((a0 == 1)), (by first | rfl | (simp; done) | (simp [*]; done)), H', ⟨by have := HJ1.out; have := HJ4.out; first | omega | exact Nat.le_refl _⟩, by repeat (first | exact Drawn0.refl _ | apply Drawn0.step)⟩
        ·rw [if_neg c10] at H
         have c10b0 : (a0 == 1) = false := beq_eq_false_iff_ne.mpr c10
         have c10b1 : (a0 != 1) = true := bne_iff_ne.mpr c10
         (first | rw [c10b0] | (simp only [i64_w, i32_w]; rw [c10b0]) | rw [c10b1] | (simp only [i64_w, i32_w]; rw [c10b1]) | skip)
         by_cases c11 : a0 = 2
         ·rw [if_pos c11] at H
          have c11b0 : (a0 == 2) = true := beq_iff_eq.mpr c11
          have c11b1 : (a0 != 2) = false := bne_eq_false_iff_eq.mpr c11
          clear c11
          have H' := am H
          clear H
          go_wp2
          go_meet
          case rel => exact ⟨_, ((a0 == 2)), (by first | rfl | (simp; done) | (simp [*]; done)), H', ⟨by have := HJ1.out; have := HJ4.out; first | omega | exact Nat.le_refl _⟩, by repeat (first | exact Drawn0.refl _ | apply Drawn0.step)⟩
         ·rw [if_neg c11] at H
          have c11b0 : (a0 == 2) = false := beq_eq_false_iff_ne.mpr c11
          have c11b1 : (a0 != 2) = true := bne_iff_ne.mpr c11
          by_cases c12 : a0 = 4
          ·rw [if_pos c12] at H
           have c12b0 : (a0 == 4) = true := beq_iff_eq.mpr c12
           have c12b1 : (a0 != 4) = false := bne_eq_false_iff_eq.mpr c12
           clear c12
           have H' := am H
           clear H
           go_wp2
           go_meet
           case rel => exact ⟨_, ((a0 == 4)), (by first | rfl | (simp; done) | (simp [*]; done)), H', ⟨by have := HJ1.out; have := HJ4.out; first | omega | exact Nat.le_refl _⟩, by repeat (first | exact Drawn0.refl _ | apply Drawn0.step)⟩
          ·rw [if_neg c12] at H
           have c12b0 : (a0 == 4) = false := beq_eq_false_iff_ne.mpr c12
           have c12b1 : (a0 != 4) = true := bne_iff_ne.mpr c12
           by_cases c13 : a0 = 5
           ·rw [if_pos c13] at H
            have c13b0 : (a0 == 5) = true := beq_iff_eq.mpr c13
            have c13b1 : (a0 != 5) = false := bne_eq_false_iff_eq.mpr c13
            clear c13
            have H' := am H
            clear H
            go_wp2
            go_meet
            case rel => exact ⟨_, ((a0 == 5)), (by first | rfl | (simp; done) | (simp [*]; done)), H', ⟨by have := HJ1.out; have := HJ4.out; first | omega | exact Nat.le_refl _⟩, by repeat (first | exact Drawn0.refl _ | apply Drawn0.step)⟩
           ·rw [if_neg c13] at H
            have c13b0 : (a0 == 5) = false := beq_eq_false_iff_ne.mpr c13
            have c13b1 : (a0 != 5) = true := bne_iff_ne.mpr c13
            by_cases c14 : a0 = 6
            ·rw [if_pos c14] at H
             have c14b0 : (a0 == 6) = true := beq_iff_eq.mpr c14
             have c14b1 : (a0 != 6) = false := bne_eq_false_iff_eq.mpr c14
             clear c14
             have H' := am H
             clear H
             go_wp2
             go_meet
             case rel => exact ⟨_, ((a0 == 6)), (by first | rfl | (simp; done) | (simp [*]; done)), H', ⟨by have := HJ1.out; have := HJ4.out; first | omega | exact Nat.le_refl _⟩, by repeat (first | exact Drawn0.refl _ | apply Drawn0.step)⟩
            ·rw [if_neg c14] at H
             have c14b0 : (a0 == 6) = false := beq_eq_false_iff_ne.mpr c14
             have c14b1 : (a0 != 6) = true := bne_iff_ne.mpr c14
             by_cases c15 : a0 = 14
             ·rw [if_pos c15] at H
              have c15b0 : (a0 == 14) = true := beq_iff_eq.mpr c15
              have c15b1 : (a0 != 14) = false := bne_eq_false_iff_eq.mpr c15
              clear c15
              have H' := am H
              clear H
              go_wp2
              go_meet
              case rel => exact ⟨_, ((a0 == 14)), (by first | rfl | (simp; done) | (simp [*]; done)), H', ⟨by have := HJ1.out; have := HJ4.out; first | omega | exact Nat.le_refl _⟩, by repeat (first | exact Drawn0.refl _ | apply Drawn0.step)⟩
             ·rw [if_neg c15] at H
              have c15b0 : (a0 == 14) = false := beq_eq_false_iff_ne.mpr c15
              have c15b1 : (a0 != 14) = true := bne_iff_ne.mpr c15
              by_cases c16 : a0 = 15
              ·rw [if_pos c16] at H
               have c16b0 : (a0 == 15) = true := beq_iff_eq.mpr c16
               have c16b1 : (a0 != 15) = false := bne_eq_false_iff_eq.mpr c16
               clear c16
               have H' := am H
               clear H
               go_wp2
               go_meet
               case rel => exact ⟨_, ((a0 == 15)), (by first | rfl | (simp; done) | (simp [*]; done)), H', ⟨by have := HJ1.out; have := HJ4.out; first | omega | exact Nat.le_refl _⟩, by repeat (first | exact Drawn0.refl _ | apply Drawn0.step)⟩
              ·rw [if_neg c16] at H
               have c16b0 : (a0 == 15) = false := beq_eq_false_iff_ne.mpr c16
               have c16b1 : (a0 != 15) = true := bne_iff_ne.mpr c16
               have H' := am H
               clear H
               go_wp2
               go_meet
               case rel => exact ⟨_, ((a0 == 16)), (by first | rfl | (simp; done) | (simp [*]; done)), H', ⟨by have := HJ1.out; have := HJ4.out; first | omega | exact Nat.le_refl _⟩, by repeat (first | exact Drawn0.refl _ | apply Drawn0.step)⟩
       case rest =>
        clear HC9
        try clear c1
        try clear p2
        try clear c3
        try clear c3b0
        try clear c3b1
        try clear c4
        try clear c6
        try clear c6b0
        try clear c6b1
        try clear c7
        try clear c7b0
        try clear c7b1
        try clear c8
        try clear c10
        try clear c10b0
        try clear c10b1
        try clear c11
        try clear c11b0
        try clear c11b1
        try clear c12
        try clear c12b0
        try clear c12b1
        try clear c13
        try clear c13b0
        try clear c13b1
        try clear c14
        try clear c14b0
        try clear c14b1
        try clear c15
        try clear c15b0
        try clear c15b1
        try clear c16
        try clear c16b0
        try clear c16b1
        try clear p2
        obtain ⟨kq, x11_8, rfl, HA, HJ8, ⟨mc8, rfl⟩⟩ := hcut
        cases kq with
        | zero => exact absurd HA.out (by simp [minstrelref13_Uses.j2])
        | succ kj8 =>
         have H := HA.out
         clear HA
         simp only [minstrelref13_Uses.j2] at H
         by_cases c17 : x11_8 = true
         ·subst c17
          rw [if_pos rfl] at H
          obtain rfl := Option.some.inj H
          go_wp2
          go_ret
          exact ⟨by first | rfl | (simp; done) | (simp [*]; done), by repeat (first | exact Drawn0.refl _ | apply Drawn0.step)⟩
         ·replace c17 := Bool.eq_false_iff.mpr c17
          subst c17
          rw [if_neg (show ¬ (false = true) by decide)] at H
          by_cases c18 : a0 = 7
          ·rw [if_pos c18] at H
           have c18b0 : (a0 == 7) = true := beq_iff_eq.mpr c18
           have c18b1 : (a0 != 7) = false := bne_eq_false_iff_eq.mpr c18
           clear c18
           obtain rfl := Option.some.inj H
           go_wp2
           go_ret
           exact ⟨by first | rfl | (simp; done) | (simp [*]; done), by repeat (first | exact Drawn0.refl _ | apply Drawn0.step)⟩
          ·rw [if_neg c18] at H
           have c18b0 : (a0 == 7) = false := beq_eq_false_iff_ne.mpr c18
           have c18b1 : (a0 != 7) = true := bne_iff_ne.mpr c18
           by_cases c19 : a0 = 8
           ·rw [if_pos c19] at H
            have c19b0 : (a0 == 8) = true := beq_iff_eq.mpr c19
            have c19b1 : (a0 != 8) = false := bne_eq_false_iff_eq.mpr c19
            clear c19
            obtain rfl := Option.some.inj H
            go_wp2
            go_ret
            exact ⟨by first | rfl | (simp; done) | (simp [*]; done), by repeat (first | exact Drawn0.refl _ | apply Drawn0.step)⟩
           ·rw [if_neg c19] at H
            have c19b0 : (a0 == 8) = false := beq_eq_false_iff_ne.mpr c19
            have c19b1 : (a0 != 8) = true := bne_iff_ne.mpr c19
            by_cases c20 : a0 = 10
            ·rw [if_pos c20] at H
             have c20b0 : (a0 == 10) = true := beq_iff_eq.mpr c20
             have c20b1 : (a0 != 10) = false := bne_eq_false_iff_eq.mpr c20
             clear c20
             obtain rfl := Option.some.inj H
             go_wp2
             go_ret
             exact ⟨by first | rfl | (simp; done) | (simp [*]; done), by repeat (first | exact Drawn0.refl _ | apply Drawn0.step)⟩
            ·rw [if_neg c20] at H
             have c20b0 : (a0 == 10) = false := beq_eq_false_iff_ne.mpr c20
             have c20b1 : (a0 != 10) = true := bne_iff_ne.mpr c20
             by_cases c21 : a0 = 29
             ·rw [if_pos c21] at H
              have c21b0 : (a0 == 29) = true := beq_iff_eq.mpr c21
              have c21b1 : (a0 != 29) = false := bne_eq_false_iff_eq.mpr c21
              clear c21
              obtain rfl := Option.some.inj H
              go_wp2
              go_ret
              exact ⟨by first | rfl | (simp; done) | (simp [*]; done), by repeat (first | exact Drawn0.refl _ | apply Drawn0.step)⟩
             ·rw [if_neg c21] at H
              have c21b0 : (a0 == 29) = false := beq_eq_false_iff_ne.mpr c21
              have c21b1 : (a0 != 29) = true := bne_iff_ne.mpr c21
              have HC22 := am H
              clear H
              go_upto_if 28 with (fail)
              go_cut [28] (fun v28 wc => ∃ (kq : Nat) (x28_21 : Bool), v28 = .bool x28_21 ∧ Aside0 (minstrelref13_Uses.j3 kq a0 x28_21 = some r) ∧ Aside0 (kq ≤ kj8) ∧ Drawn0 w wc)
              case first =>
               have H := HC22.out
               clear HC22
               by_cases c23 : a0 = 30
               ·rw [if_pos c23] at H
                have c23b0 : (a0 == 30) = true := beq_iff_eq.mpr c23
                have c23b1 : (a0 != 30) = false := bne_eq_false_iff_eq.mpr c23
                clear c23
                (first | rw [c23b0] | (simp only [i64_w, i32_w]; rw [c23b0]) | rw [c23b1] | (simp only [i64_w, i32_w]; rw [c23b1]) | skip)
                have H' := am H
                clear H
                go_wp2
                go_meet
                case rel => exact ⟨_, ((a0 == 30)), (by first | rfl | (simp; done) | (simp [*]; done)), H', ⟨by have := HJ1.out; have := HJ4.out; have := HJ8.out; first | omega | exact Nat.le_refl _⟩, by repeat (first | exact Drawn0.refl _ | apply Drawn0.step)⟩
               ·rw [if_neg c23] at H
                have c23b0 : (a0 == 30) = false := beq_eq_false_iff_ne.mpr c23
                have c23b1 : (a0 != 30) = true := bne_iff_ne.mpr c23
                (first | rw [c23b0] | (simp only [i64_w, i32_w]; rw [c23b0]) | rw [c23b1] | (simp only [i64_w, i32_w]; rw [c23b1]) | skip)
                by_cases c24 : a0 = 31
                ·rw [if_pos c24] at H
                 have c24b0 : (a0 == 31) = true := beq_iff_eq.mpr c24
                 have c24b1 : (a0 != 31) = false := bne_eq_false_iff_eq.mpr c24
                 clear c24
                 have H' := am H
                 clear H
                 go_wp2
                 go_meet
                 case rel => exact ⟨_, ((a0 == 31)), (by first | rfl | (simp; done) | (simp [*]; done)), H', ⟨by have := HJ1.out; have := HJ4.out; have := HJ8.out; first | omega | exact Nat.le_refl _⟩, by repeat (first | exact Drawn0.refl _ | apply Drawn0.step)⟩
                ·rw [if_neg c24] at H
                 have c24b0 : (a0 == 31) = false := beq_eq_false_iff_ne.mpr c24
                 have c24b1 : (a0 != 31) = true := bne_iff_ne.mpr c24
                 by_cases c25 : a0 = 36
                 ·rw [if_pos c25] at H
                  have c25b0 : (a0 == 36) = true := beq_iff_eq.mpr c25
                  have c25b1 : (a0 != 36) = false := bne_eq_false_iff_eq.mpr c25
                  clear c25
                  have H' := am H
                  clear H
                  go_wp2
                  go_meet
                  case rel => exact ⟨_, ((a0 == 36)), (by first | rfl | (simp; done) | (simp [*]; done)), H', ⟨by have := HJ1.out; have := HJ4.out; have := HJ8.out; first | omega | exact Nat.le_refl _⟩, by repeat (first | exact Drawn0.refl _ | apply Drawn0.step)⟩
                 ·rw [if_neg c25] at H
                  have c25b0 : (a0 == 36) = false := beq_eq_false_iff_ne.mpr c25
                  have c25b1 : (a0 != 36) = true := bne_iff_ne.mpr c25
                  have H' := am H
                  clear H
                  go_wp2
                  go_meet
                  case rel => exact ⟨_, ((a0 == 37)), (by first | rfl | (simp; done) | (simp [*]; done)), H', ⟨by have := HJ1.out; have := HJ4.out; have := HJ8.out; first | omega | exact Nat.le_refl _⟩, by repeat (first | exact Drawn0.refl _ | apply Drawn0.step)⟩
              case rest =>
               clear HC22
               try clear c1
               try clear c2
               try clear p2
               try clear c3
               try clear c3b0
               try clear c3b1
               try clear c4
               try clear c6
               try clear c6b0
               try clear c6b1
               try clear c7
               try clear c7b0
               try clear c7b1
               try clear c8
               try clear c10
               try clear c10b0
               try clear c10b1
               try clear c11
               try clear c11b0
               try clear c11b1
               try clear c12
               try clear c12b0
               try clear c12b1
               try clear c13
               try clear c13b0
               try clear c13b1
               try clear c14
               try clear c14b0
               try clear c14b1
               try clear c15
               try clear c15b0
               try clear c15b1
               try clear c16
               try clear c16b0
               try clear c16b1
               try clear c17
               try clear c18
               try clear c18b0
               try clear c18b1
               try clear c19
               try clear c19b0
               try clear c19b1
               try clear c20
               try clear c20b0
               try clear c20b1
               try clear c21
               try clear c21b0
               try clear c21b1
               try clear c23
               try clear c23b0
               try clear c23b1
               try clear c24
               try clear c24b0
               try clear c24b1
               try clear c25
               try clear c25b0
               try clear c25b1
               try clear p2
               obtain ⟨kq, x28_21, rfl, HA, HJ21, ⟨mc21, rfl⟩⟩ := hcut
               cases kq with
               | zero => exact absurd HA.out (by simp [minstrelref13_Uses.j3])
               | succ kj21 =>
                have H := HA.out
                clear HA
                simp only [minstrelref13_Uses.j3] at H
                by_cases c26 : x28_21 = true
                ·subst c26
                 rw [if_pos rfl] at H
                 obtain rfl := Option.some.inj H
                 go_wp2
                 go_ret
                 exact ⟨by first | rfl | (simp; done) | (simp [*]; done), by repeat (first | exact Drawn0.refl _ | apply Drawn0.step)⟩
                ·replace c26 := Bool.eq_false_iff.mpr c26
                 subst c26
                 rw [if_neg (show ¬ (false = true) by decide)] at H
                 by_cases c27 : a0 = 32
                 ·rw [if_pos c27] at H
                  have c27b0 : (a0 == 32) = true := beq_iff_eq.mpr c27
                  have c27b1 : (a0 != 32) = false := bne_eq_false_iff_eq.mpr c27
                  clear c27
                  obtain rfl := Option.some.inj H
                  go_wp2
                  go_ret
                  exact ⟨by first | rfl | (simp; done) | (simp [*]; done), by repeat (first | exact Drawn0.refl _ | apply Drawn0.step)⟩
                 ·rw [if_neg c27] at H
                  have c27b0 : (a0 == 32) = false := beq_eq_false_iff_ne.mpr c27
                  have c27b1 : (a0 != 32) = true := bne_iff_ne.mpr c27
                  by_cases c28 : a0 = 35
                  ·rw [if_pos c28] at H
                   have c28b0 : (a0 == 35) = true := beq_iff_eq.mpr c28
                   have c28b1 : (a0 != 35) = false := bne_eq_false_iff_eq.mpr c28
                   clear c28
                   obtain rfl := Option.some.inj H
                   go_wp2
                   go_ret
                   exact ⟨by first | rfl | (simp; done) | (simp [*]; done), by repeat (first | exact Drawn0.refl _ | apply Drawn0.step)⟩
                  ·rw [if_neg c28] at H
                   have c28b0 : (a0 == 35) = false := beq_eq_false_iff_ne.mpr c28
                   have c28b1 : (a0 != 35) = true := bne_iff_ne.mpr c28
                   by_cases c29 : a0 = 34
                   ·rw [if_pos c29] at H
                    have c29b0 : (a0 == 34) = true := beq_iff_eq.mpr c29
                    have c29b1 : (a0 != 34) = false := bne_eq_false_iff_eq.mpr c29
                    clear c29
                    obtain rfl := Option.some.inj H
                    go_wp2
                    go_ret
                    exact ⟨by first | rfl | (simp; done) | (simp [*]; done), by repeat (first | exact Drawn0.refl _ | apply Drawn0.step)⟩
                   ·rw [if_neg c29] at H
                    have c29b0 : (a0 == 34) = false := beq_eq_false_iff_ne.mpr c29
                    have c29b1 : (a0 != 34) = true := bne_iff_ne.mpr c29
                    obtain rfl := Option.some.inj H
                    go_wp2
                    go_ret
                    exact ⟨by first | rfl | (simp; done) | (simp [*]; done), by repeat (first | exact Drawn0.refl _ | apply Drawn0.step)⟩
def minstrelref13_operand.f (a0_0 : Int) (a0_1 : Int) (a0_2 : Int) (a0_3 : Int) (a1 : Int) : Option (Int) := if a1 = 0 then (some a0_1) else (if a1 = 1 then (some a0_2) else (some a0_3))
set_option maxHeartbeats 8000000 in
set_option maxRecDepth 100000 in
theorem minstrelref13_operand.calls (a0_0 : Int) (a0_1 : Int) (a0_2 : Int) (a0_3 : Int) (a1 : Int) (r : Int) (w : World) (h : minstrelref13_operand.f a0_0 a0_1 a0_2 a0_3 a1 = some r) :
  Calls Tryd.prog 35 #[.agg #[.int .i64 a0_0, .int .i64 a0_1, .int .i64 a0_2, .int .i64 a0_3], .int .i64 a1] w fun e w' => e = .returned (.int .i64 r) ∧ Below w.heap.size w w' := by
 have hu36 := Tryd.underlying36
 have HB := am (Below.refl w.heap.size w)
 have H : (if a1 = 0 then (some a0_1) else (if a1 = 1 then (some a0_2) else (some a0_3))) = some r := h
 clear h
 by_cases c3 : a1 = 0
 ·rw [if_pos c3] at H
  have c3b0 : (a1 == 0) = true := beq_iff_eq.mpr c3
  have c3b1 : (a1 != 0) = false := bne_eq_false_iff_eq.mpr c3
  clear c3
  obtain rfl := Option.some.inj H
  go_enter Tryd.func35, Tryd.ntmps35
  go_wp2_with (first | ((with_reducible refine gate_dst (N := 2) rfl ?_); refine box_event ?hg (N := 2) ?hd (cs := #[.int .i64 a0_0, .int .i64 a0_1, .int .i64 a0_2, .int .i64 a0_3]) (t := 36) ?hr ?_; (case hd => rfl); (case hg => rfl); (case hr => first | (go_simp; done) | (go_simp; rfl)); intro gb141 hg w4 hbox hb; have BK141 := am (hbox); have GW141 := am ((by rw [hg]; exact (below_size pB) : w.heap.size ≤ gb141)); have GE141 := am ((by rw [hg]; exact (below_size pB) : w.heap.size ≤ gb141)); replace HB := am (below_step pB hb); clear hb hbox hg; have q5 := cf4 BK141.out))
  go_ret
  exact ⟨pE, pB⟩
 ·rw [if_neg c3] at H
  have c3b0 : (a1 == 0) = false := beq_eq_false_iff_ne.mpr c3
  have c3b1 : (a1 != 0) = true := bne_iff_ne.mpr c3
  by_cases c6 : a1 = 1
  ·rw [if_pos c6] at H
   have c6b0 : (a1 == 1) = true := beq_iff_eq.mpr c6
   have c6b1 : (a1 != 1) = false := bne_eq_false_iff_eq.mpr c6
   clear c6
   obtain rfl := Option.some.inj H
   go_enter Tryd.func35, Tryd.ntmps35
   go_wp2_with (first | ((with_reducible refine gate_dst (N := 2) rfl ?_); refine box_event ?hg (N := 2) ?hd (cs := #[.int .i64 a0_0, .int .i64 a0_1, .int .i64 a0_2, .int .i64 a0_3]) (t := 36) ?hr ?_; (case hd => rfl); (case hg => rfl); (case hr => first | (go_simp; done) | (go_simp; rfl)); intro gb141 hg w7 hbox hb; have BK141 := am (hbox); have GW141 := am ((by rw [hg]; exact (below_size pB) : w.heap.size ≤ gb141)); have GE141 := am ((by rw [hg]; exact (below_size pB) : w.heap.size ≤ gb141)); replace HB := am (below_step pB hb); clear hb hbox hg; have q8 := cf4 BK141.out))
   go_ret
   exact ⟨pE, pB⟩
  ·rw [if_neg c6] at H
   have c6b0 : (a1 == 1) = false := beq_eq_false_iff_ne.mpr c6
   have c6b1 : (a1 != 1) = true := bne_iff_ne.mpr c6
   obtain rfl := Option.some.inj H
   go_enter Tryd.func35, Tryd.ntmps35
   go_wp2_with (first | ((with_reducible refine gate_dst (N := 2) rfl ?_); refine box_event ?hg (N := 2) ?hd (cs := #[.int .i64 a0_0, .int .i64 a0_1, .int .i64 a0_2, .int .i64 a0_3]) (t := 36) ?hr ?_; (case hd => rfl); (case hg => rfl); (case hr => first | (go_simp; done) | (go_simp; rfl)); intro gb141 hg w9 hbox hb; have BK141 := am (hbox); have GW141 := am ((by rw [hg]; exact (below_size pB) : w.heap.size ≤ gb141)); have GE141 := am ((by rw [hg]; exact (below_size pB) : w.heap.size ≤ gb141)); replace HB := am (below_step pB hb); clear hb hbox hg; have q10 := cf4 BK141.out))
   go_ret
   exact ⟨pE, pB⟩
end Go.Proofs.YtlhnkfheojlghaaDoor.Pr
end
section
namespace Go.Proofs.YtlhnkfheojlghaaDoor.Pr
open Go.RowKit Go.Proofs.YtlhnkfheojlghaaDoorW.PrintWords Go.Proofs.YtlhnkfheojlghaaDoorW.PrintLast Go.Proofs.YtlhnkfheojlghaaDoorW.PrintMore
attribute [local go_sem] max2_int min2_int max_two min_two max_three min_three max_four min_four
def minstrelref13_can.l0 : Nat → ByteArray → Int → Int → Int → List (S94) → List (S36) → List (S98) → List (S27) → Int → Int → Int → Int → Option (Bool)
 | 0, _, _, _, _, _, _, _, _, _, _, _, _ => none
 | k + 1, x5, x6, x143000, x143001, x143002, x143003, x143004, x143005, x144000, x144001, x144002, x144003 => if x6 < (x5.size : Int) then ((minstrelref13_operand.f x144000 x144001 x144002 x144003 x6).bind fun t146 => (if 0 ≤ x6 then (if (bt x5 x6) = 82 then (if t146 < 0 then (some false) else (if t146 ≥ x143001 then (some false) else (minstrelref13_can.l0 k x5 (wrap64 (x6 + 1)) x143000 x143001 x143002 x143003 x143004 x143005 x144000 x144001 x144002 x144003))) else (if (bt x5 x6) = 75 then (if t146 < 0 then (some false) else (if t146 ≥ (x143004.length : Int) then (some false) else (minstrelref13_can.l0 k x5 (wrap64 (x6 + 1)) x143000 x143001 x143002 x143003 x143004 x143005 x144000 x144001 x144002 x144003))) else (if (bt x5 x6) = 85 then (if t146 < 0 then (some false) else (if t146 ≥ (x143002.length : Int) then (some false) else (minstrelref13_can.l0 k x5 (wrap64 (x6 + 1)) x143000 x143001 x143002 x143003 x143004 x143005 x144000 x144001 x144002 x144003))) else (if (bt x5 x6) = 80 then (if t146 < 0 then (some false) else (if t146 ≥ (x143005.length : Int) then (some false) else (minstrelref13_can.l0 k x5 (wrap64 (x6 + 1)) x143000 x143001 x143002 x143003 x143004 x143005 x144000 x144001 x144002 x144003))) else (if (bt x5 x6) = 79 then (if t146 < 0 then (some false) else (if t146 ≥ (x143003.length : Int) then (some false) else (minstrelref13_can.l0 k x5 (wrap64 (x6 + 1)) x143000 x143001 x143002 x143003 x143004 x143005 x144000 x144001 x144002 x144003))) else (if (bt x5 x6) = 78 then (if t146 < 0 then (some false) else (if t146 ≥ 31 then (some false) else (minstrelref13_can.l0 k x5 (wrap64 (x6 + 1)) x143000 x143001 x143002 x143003 x143004 x143005 x144000 x144001 x144002 x144003))) else (if t146 < 0 then (some false) else (if t146 ≥ 0 then (some false) else (minstrelref13_can.l0 k x5 (wrap64 (x6 + 1)) x143000 x143001 x143002 x143003 x143004 x143005 x144000 x144001 x144002 x144003))))))))) else (none))) else (if x144000 = 32 then (if x144002 ≥ (wrap64 (x143001 - x144001)) then (some false) else (if x144000 = 36 then (some (decide (x144001 < (wrap64 (x143001 - 2))))) else (if x144000 = 37 then (some (decide (x144001 < (wrap64 (x143001 - 2))))) else (some true)))) else (if x144000 = 36 then (some (decide (x144001 < (wrap64 (x143001 - 2))))) else (if x144000 = 37 then (some (decide (x144001 < (wrap64 (x143001 - 2))))) else (some true))))
def minstrelref13_can.f (k : Nat) (a0_0 : Int) (a0_1 : Int) (l0_2 : List (S94)) (l0_3 : List (S36)) (l0_4 : List (S98)) (l0_5 : List (S27)) (a1_0 : Int) (a1_1 : Int) (a1_2 : Int) (a1_3 : Int) : Option (Bool) := (minstrelref13_Is.f a1_0).bind fun t144 => (if t144 = true then ((minstrelref13_Uses.f k a1_0).bind fun t145 => (minstrelref13_can.l0 k t145 0 a0_0 a0_1 l0_2 l0_3 l0_4 l0_5 a1_0 a1_1 a1_2 a1_3)) else (some false))
set_option maxHeartbeats 8000000 in
set_option maxRecDepth 100000 in
theorem minstrelref13_can.calls (k : Nat) (a0_0 : Int) (a0_1 : Int) (A0_2 : Option Addr) (c0_2 : Nat) (l0_2 : List (S94)) (A0_3 : Option Addr) (c0_3 : Nat) (l0_3 : List (S36)) (A0_4 : Option Addr) (c0_4 : Nat) (l0_4 : List (S98)) (A0_5 : Option Addr) (c0_5 : Nat) (l0_5 : List (S27)) (a1_0 : Int) (a1_1 : Int) (a1_2 : Int) (a1_3 : Int) (r : Bool) (w : World) (hr0_2 : Kd.C k94 w A0_2 l0_2.length l0_2) (hc0_2 : l0_2.length ≤ c0_2) (hr0_3 : Kd.C k36 w A0_3 l0_3.length l0_3) (hc0_3 : l0_3.length ≤ c0_3) (hr0_4 : Kd.C k98 w A0_4 l0_4.length l0_4) (hc0_4 : l0_4.length ≤ c0_4) (hr0_5 : Kd.C k27 w A0_5 l0_5.length l0_5) (hc0_5 : l0_5.length ≤ c0_5) (h : minstrelref13_can.f k a0_0 a0_1 l0_2 l0_3 l0_4 l0_5 a1_0 a1_1 a1_2 a1_3 = some r) :
  Calls Tryd.prog 70 #[.agg #[.int .i64 a0_0, .int .i64 a0_1, .slice A0_2 l0_2.length c0_2, .slice A0_3 l0_3.length c0_3, .slice A0_4 l0_4.length c0_4, .slice A0_5 l0_5.length c0_5], .agg #[.int .i64 a1_0, .int .i64 a1_1, .int .i64 a1_2, .int .i64 a1_3]] w fun e w' => e = .returned (.bool r) ∧ Below w.heap.size w w' := by
 have hu27 := Tryd.underlying27
 have hu36 := Tryd.underlying36
 have HR0_2 := am hr0_2
 have HC0_2 := am hc0_2
 clear hr0_2 hc0_2
 have HR0_3 := am hr0_3
 have HC0_3 := am hc0_3
 clear hr0_3 hc0_3
 have HR0_4 := am hr0_4
 have HC0_4 := am hc0_4
 clear hr0_4 hc0_4
 have HR0_5 := am hr0_5
 have HC0_5 := am hc0_5
 clear hr0_5 hc0_5
 have HB := am (Below.refl w.heap.size w)
 have H : ((minstrelref13_Is.f a1_0).bind fun t144 => (if t144 = true then ((minstrelref13_Uses.f k a1_0).bind fun t145 => (minstrelref13_can.l0 k t145 0 a0_0 a0_1 l0_2 l0_3 l0_4 l0_5 a1_0 a1_1 a1_2 a1_3)) else (some false))) = some r := h
 clear h
 replace H := Option.bind_eq_some_iff.mp H
 obtain ⟨t144, A30, H⟩ := H
 try dsimp only at H
 have A3 := am A30
 clear A30
 by_cases c4 : t144 = true
 ·subst c4
  rw [if_pos rfl] at H
  replace H := Option.bind_eq_some_iff.mp H
  obtain ⟨t145, A50, H⟩ := H
  try dsimp only at H
  have A5 := am A50
  clear A50
  have H' := am H
  clear H
  go_enter Tryd.func70, Tryd.ntmps70
  go_wp2_with (first | ((with_reducible refine gate_dst (N := 2) rfl ?_); refine box_event ?hg (N := 2) ?hd (cs := #[.int .i64 a0_0, .int .i64 a0_1, .slice A0_2 l0_2.length c0_2, .slice A0_3 l0_3.length c0_3, .slice A0_4 l0_4.length c0_4, .slice A0_5 l0_5.length c0_5]) (t := 27) ?hr ?_; (case hd => rfl); (case hg => rfl); (case hr => first | (go_simp; done) | (go_simp; rfl)); intro gb142 hg w6 hbox hb; have BK142 := am (hbox); have GW142 := am ((by rw [hg]; exact (below_size pB) : w.heap.size ≤ gb142)); have GE142 := am ((by rw [hg]; exact (below_size pB) : w.heap.size ≤ gb142)); replace HB := am (below_step pB hb); clear hb hbox hg) | ((with_reducible refine gate_dst (N := 3) rfl ?_); refine box_event ?hg (N := 3) ?hd (cs := #[.int .i64 a1_0, .int .i64 a1_1, .int .i64 a1_2, .int .i64 a1_3]) (t := 36) ?hr ?_; (case hd => rfl); (case hg => rfl); (case hr => first | (go_simp; done) | (go_simp; rfl)); intro gb143 hg w7 hbox hb; have BK143 := am (hbox); have GW143 := am ((by rw [hg]; exact (below_size pB) : w.heap.size ≤ gb143)); have GE143 := am ((by rw [hg]; exact (below_size pB) : w.heap.size ≤ gb143)); have NB142_143 := am ((by rw [hg]; exact Nat.ne_of_lt (pkl BK142.out) : gb142 ≠ gb143)); have NB143_142 := am ((by rw [hg]; exact Nat.ne_of_gt (pkl BK142.out) : gb143 ≠ gb142)); replace BK142 := am (pkb BK142.out hb); replace HB := am (below_step pB hb); clear hb hbox hg; have hnb8 := NB143_142.out; have hnc8 := NB142_143.out; have q9 := cf4 BK143.out) | ((with_reducible refine gate_callee (f := 34) rfl ?_); refine goesL_ (some 11) rfl rfl Tryd.func34 (by kernel_rfl) rfl #[.int .i64 a1_0] rfl pM ?_; (with_reducible refine (minstrelref13_Is.calls a1_0 true _ A3.out).mono ?_); rintro e w' ⟨rfl, ⟨nd, rfl⟩⟩; refine ⟨_, rfl, ?_⟩) | ((with_reducible refine gate_callee (f := 16) rfl ?_); refine goesL_ (some 15) rfl rfl Tryd.func16 (by kernel_rfl) rfl #[.int .i64 a1_0] rfl pM ?_; (with_reducible refine (minstrelref13_Uses.calls k a1_0 t145 _ A5.out).mono ?_); rintro e w' ⟨rfl, ⟨nd, rfl⟩⟩; refine ⟨_, rfl, ?_⟩))
  go_loopg [6] k (fun kq v6 w' => ∃ (x6_1 : Int), v6 = .int .i64 x6_1 ∧ Aside0 (minstrelref13_can.l0 kq t145 x6_1 a0_0 a0_1 l0_2 l0_3 l0_4 l0_5 a1_0 a1_1 a1_2 a1_3 = some r) ∧ Aside0 (kq ≤ k) ∧ Aside0 (w'.heap[gb142]? = some (.cells #[.int .i64 a0_0, .int .i64 a0_1, (.slice A0_2 l0_2.length c0_2), (.slice A0_3 l0_3.length c0_3), (.slice A0_4 l0_4.length c0_4), (.slice A0_5 l0_5.length c0_5)] 27 (0, 0))) ∧ Aside0 (w'.heap[gb143]? = some (.cells #[.int .i64 a1_0, .int .i64 a1_1, .int .i64 a1_2, .int .i64 a1_3] 36 (0, 0))) ∧ Aside0 (Below w.heap.size w w'))
  case atStart => exact ⟨(0), (by first | rfl | (simp; done) | (simp [*]; done)), H', ⟨Nat.le_refl _⟩, ⟨by (with_reducible repeat (first | refine blk_drewN ?_ _ | refine blk_drew ?_ | refine blk_alloc ?_ _)); exact BK142.out⟩, ⟨by (with_reducible repeat (first | refine blk_drewN ?_ _ | refine blk_drew ?_ | refine blk_alloc ?_ _)); exact BK143.out⟩, ⟨pB⟩⟩
  case round =>
   clear H'
   try clear c1
   try clear p2
   try clear c3
   try clear c4
   try clear c7
   try clear c8
   try clear q9
   obtain ⟨x6_1, rfl, HA, HK1, BK142, BK143, HB⟩ := hrel
   cases gk with
   | zero => exact absurd HA.out (by simp [minstrelref13_can.l0])
   | succ k1 =>
    have H := HA.out
    clear HA
    simp only [minstrelref13_can.l0] at H
    by_cases c10 : x6_1 < (t145.size : Int)
    ·rw [if_pos c10] at H
     have c10b0 : decide (x6_1 < (t145.size : Int)) = true := decide_eq_true c10
     clear c10
     replace H := Option.bind_eq_some_iff.mp H
     obtain ⟨t146, A110, H⟩ := H
     try dsimp only at H
     have A11 := am A110
     clear A110
     by_cases c12 : 0 ≤ x6_1
     ·rw [if_pos c12] at H
      have c12b0 : decide (0 ≤ x6_1) = true := decide_eq_true c12
      clear c12
      by_cases c14 : (bt t145 x6_1) = 82
      ·rw [if_pos c14] at H
       have c14b0 : ((bt t145 x6_1) == 82) = true := beq_iff_eq.mpr c14
       have c14b1 : ((bt t145 x6_1) != 82) = false := bne_eq_false_iff_eq.mpr c14
       clear c14
       by_cases c15 : t146 < 0
       ·rw [if_pos c15] at H
        have c15b0 : decide (t146 < 0) = true := decide_eq_true c15
        clear c15
        obtain rfl := Option.some.inj H
        have hnb16 := NB143_142.out
        have hnc16 := NB142_143.out
        have q17 := cf4 BK143.out
        go_wp2_with (first | ((with_reducible refine gate_callee (f := 35) rfl ?_); refine goesL_ (some 24) rfl rfl Tryd.func35 (by kernel_rfl) rfl #[.agg #[.int .i64 a1_0, .int .i64 a1_1, .int .i64 a1_2, .int .i64 a1_3], .int .i64 x6_1] rfl pM ?_; (with_reducible refine (minstrelref13_operand.calls a1_0 a1_1 a1_2 a1_3 x6_1 t146 _ A11.out).mono ?_); rintro e w18 ⟨rfl, hb⟩; refine ⟨_, rfl, ?_⟩; replace BK142 := am (pkb BK142.out hb); replace BK143 := am (pkb BK143.out hb); replace HB := am (below_step pB hb); (try clear hb); (try clear hb2); (try clear hk); (try clear hi); have p13 : 0 ≤ (x6_1 : Int) := pD; have q13 : x6_1 < (t145.size : Int) := pD; have hx13 := bt_at t145 x6_1; replace p13 := eq_true p13; replace q13 := eq_true q13; have q19 := cf6 BK142.out))
        go_ret
        exact ⟨pE, pB⟩
       ·rw [if_neg c15] at H
        have c15b0 : decide (t146 < 0) = false := decide_eq_false c15
        clear c15
        by_cases c20 : t146 ≥ a0_1
        ·rw [if_pos c20] at H
         have c20b0 : decide (a0_1 ≤ t146) = true := decide_eq_true c20
         clear c20
         obtain rfl := Option.some.inj H
         have hnb21 := NB143_142.out
         have hnc21 := NB142_143.out
         have q22 := cf4 BK143.out
         go_wp2_with (first | ((with_reducible refine gate_callee (f := 35) rfl ?_); refine goesL_ (some 24) rfl rfl Tryd.func35 (by kernel_rfl) rfl #[.agg #[.int .i64 a1_0, .int .i64 a1_1, .int .i64 a1_2, .int .i64 a1_3], .int .i64 x6_1] rfl pM ?_; (with_reducible refine (minstrelref13_operand.calls a1_0 a1_1 a1_2 a1_3 x6_1 t146 _ A11.out).mono ?_); rintro e w23 ⟨rfl, hb⟩; refine ⟨_, rfl, ?_⟩; replace BK142 := am (pkb BK142.out hb); replace BK143 := am (pkb BK143.out hb); replace HB := am (below_step pB hb); (try clear hb); (try clear hb2); (try clear hk); (try clear hi); have p13 : 0 ≤ (x6_1 : Int) := pD; have q13 : x6_1 < (t145.size : Int) := pD; have hx13 := bt_at t145 x6_1; replace p13 := eq_true p13; replace q13 := eq_true q13; have q24 := cf6 BK142.out))
         go_ret
         exact ⟨pE, pB⟩
        ·rw [if_neg c20] at H
         have c20b0 : decide (a0_1 ≤ t146) = false := decide_eq_false c20
         clear c20
         have H' := am H
         clear H
         have hnb25 := NB143_142.out
         have hnc25 := NB142_143.out
         have q26 := cf4 BK143.out
         go_wp2_with (first | ((with_reducible refine gate_callee (f := 35) rfl ?_); refine goesL_ (some 24) rfl rfl Tryd.func35 (by kernel_rfl) rfl #[.agg #[.int .i64 a1_0, .int .i64 a1_1, .int .i64 a1_2, .int .i64 a1_3], .int .i64 x6_1] rfl pM ?_; (with_reducible refine (minstrelref13_operand.calls a1_0 a1_1 a1_2 a1_3 x6_1 t146 _ A11.out).mono ?_); rintro e w27 ⟨rfl, hb⟩; refine ⟨_, rfl, ?_⟩; replace BK142 := am (pkb BK142.out hb); replace BK143 := am (pkb BK143.out hb); replace HB := am (below_step pB hb); (try clear hb); (try clear hb2); (try clear hk); (try clear hi); have p13 : 0 ≤ (x6_1 : Int) := pD; have q13 : x6_1 < (t145.size : Int) := pD; have hx13 := bt_at t145 x6_1; replace p13 := eq_true p13; replace q13 := eq_true q13; have q28 := cf6 BK142.out))
         go_roundg k1
         case measure => have := HK1.out; omega
         case rel => exact ⟨(wrap64 (x6_1 + 1)), (by first | rfl | (simp; done) | (simp [*]; done)), H', ⟨by have := HK1.out; omega⟩, ⟨by (with_reducible repeat (first | refine blk_drewN ?_ _ | refine blk_drew ?_ | refine blk_alloc ?_ _)); exact BK142.out⟩, ⟨by (with_reducible repeat (first | refine blk_drewN ?_ _ | refine blk_drew ?_ | refine blk_alloc ?_ _)); exact BK143.out⟩, ⟨pB⟩⟩
      ·rw [if_neg c14] at H
       have c14b0 : ((bt t145 x6_1) == 82) = false := beq_eq_false_iff_ne.mpr c14
       have c14b1 : ((bt t145 x6_1) != 82) = true := bne_iff_ne.mpr c14
       by_cases c29 : (bt t145 x6_1) = 75
       ·rw [if_pos c29] at H
        have c29b0 : ((bt t145 x6_1) == 75) = true := beq_iff_eq.mpr c29
        have c29b1 : ((bt t145 x6_1) != 75) = false := bne_eq_false_iff_eq.mpr c29
        clear c29
        by_cases c30 : t146 < 0
        ·rw [if_pos c30] at H
         have c30b0 : decide (t146 < 0) = true := decide_eq_true c30
         clear c30
         obtain rfl := Option.some.inj H
         have hnb31 := NB143_142.out
         have hnc31 := NB142_143.out
         have q32 := cf4 BK143.out
         go_wp2_with (first | ((with_reducible refine gate_callee (f := 35) rfl ?_); refine goesL_ (some 24) rfl rfl Tryd.func35 (by kernel_rfl) rfl #[.agg #[.int .i64 a1_0, .int .i64 a1_1, .int .i64 a1_2, .int .i64 a1_3], .int .i64 x6_1] rfl pM ?_; (with_reducible refine (minstrelref13_operand.calls a1_0 a1_1 a1_2 a1_3 x6_1 t146 _ A11.out).mono ?_); rintro e w33 ⟨rfl, hb⟩; refine ⟨_, rfl, ?_⟩; replace BK142 := am (pkb BK142.out hb); replace BK143 := am (pkb BK143.out hb); replace HB := am (below_step pB hb); (try clear hb); (try clear hb2); (try clear hk); (try clear hi); have p13 : 0 ≤ (x6_1 : Int) := pD; have q13 : x6_1 < (t145.size : Int) := pD; have hx13 := bt_at t145 x6_1; replace p13 := eq_true p13; replace q13 := eq_true q13; have q34 := cf6 BK142.out))
         go_ret
         exact ⟨pE, pB⟩
        ·rw [if_neg c30] at H
         have c30b0 : decide (t146 < 0) = false := decide_eq_false c30
         clear c30
         by_cases c35 : t146 ≥ (l0_4.length : Int)
         ·rw [if_pos c35] at H
          have c35b0 : decide ((l0_4.length : Int) ≤ t146) = true := decide_eq_true c35
          clear c35
          obtain rfl := Option.some.inj H
          have hnb36 := NB143_142.out
          have hnc36 := NB142_143.out
          have q37 := cf4 BK143.out
          go_wp2_with (first | ((with_reducible refine gate_callee (f := 35) rfl ?_); refine goesL_ (some 24) rfl rfl Tryd.func35 (by kernel_rfl) rfl #[.agg #[.int .i64 a1_0, .int .i64 a1_1, .int .i64 a1_2, .int .i64 a1_3], .int .i64 x6_1] rfl pM ?_; (with_reducible refine (minstrelref13_operand.calls a1_0 a1_1 a1_2 a1_3 x6_1 t146 _ A11.out).mono ?_); rintro e w38 ⟨rfl, hb⟩; refine ⟨_, rfl, ?_⟩; replace BK142 := am (pkb BK142.out hb); replace BK143 := am (pkb BK143.out hb); replace HB := am (below_step pB hb); (try clear hb); (try clear hb2); (try clear hk); (try clear hi); have p13 : 0 ≤ (x6_1 : Int) := pD; have q13 : x6_1 < (t145.size : Int) := pD; have hx13 := bt_at t145 x6_1; replace p13 := eq_true p13; replace q13 := eq_true q13; have q39 := cf6 BK142.out))
          go_ret
          exact ⟨pE, pB⟩
         ·rw [if_neg c35] at H
          have c35b0 : decide ((l0_4.length : Int) ≤ t146) = false := decide_eq_false c35
          clear c35
          have H' := am H
          clear H
          have hnb40 := NB143_142.out
          have hnc40 := NB142_143.out
          have q41 := cf4 BK143.out
          go_wp2_with (first | ((with_reducible refine gate_callee (f := 35) rfl ?_); refine goesL_ (some 24) rfl rfl Tryd.func35 (by kernel_rfl) rfl #[.agg #[.int .i64 a1_0, .int .i64 a1_1, .int .i64 a1_2, .int .i64 a1_3], .int .i64 x6_1] rfl pM ?_; (with_reducible refine (minstrelref13_operand.calls a1_0 a1_1 a1_2 a1_3 x6_1 t146 _ A11.out).mono ?_); rintro e w42 ⟨rfl, hb⟩; refine ⟨_, rfl, ?_⟩; replace BK142 := am (pkb BK142.out hb); replace BK143 := am (pkb BK143.out hb); replace HB := am (below_step pB hb); (try clear hb); (try clear hb2); (try clear hk); (try clear hi); have p13 : 0 ≤ (x6_1 : Int) := pD; have q13 : x6_1 < (t145.size : Int) := pD; have hx13 := bt_at t145 x6_1; replace p13 := eq_true p13; replace q13 := eq_true q13; have q43 := cf6 BK142.out))
          go_roundg k1
          case measure => have := HK1.out; omega
          case rel => exact ⟨(wrap64 (x6_1 + 1)), (by first | rfl | (simp; done) | (simp [*]; done)), H', ⟨by have := HK1.out; omega⟩, ⟨by (with_reducible repeat (first | refine blk_drewN ?_ _ | refine blk_drew ?_ | refine blk_alloc ?_ _)); exact BK142.out⟩, ⟨by (with_reducible repeat (first | refine blk_drewN ?_ _ | refine blk_drew ?_ | refine blk_alloc ?_ _)); exact BK143.out⟩, ⟨pB⟩⟩
       ·rw [if_neg c29] at H
        have c29b0 : ((bt t145 x6_1) == 75) = false := beq_eq_false_iff_ne.mpr c29
        have c29b1 : ((bt t145 x6_1) != 75) = true := bne_iff_ne.mpr c29
        by_cases c44 : (bt t145 x6_1) = 85
        ·rw [if_pos c44] at H
         have c44b0 : ((bt t145 x6_1) == 85) = true := beq_iff_eq.mpr c44
         have c44b1 : ((bt t145 x6_1) != 85) = false := bne_eq_false_iff_eq.mpr c44
         clear c44
         by_cases c45 : t146 < 0
         ·rw [if_pos c45] at H
          have c45b0 : decide (t146 < 0) = true := decide_eq_true c45
          clear c45
          obtain rfl := Option.some.inj H
          have hnb46 := NB143_142.out
          have hnc46 := NB142_143.out
          have q47 := cf4 BK143.out
          go_wp2_with (first | ((with_reducible refine gate_callee (f := 35) rfl ?_); refine goesL_ (some 24) rfl rfl Tryd.func35 (by kernel_rfl) rfl #[.agg #[.int .i64 a1_0, .int .i64 a1_1, .int .i64 a1_2, .int .i64 a1_3], .int .i64 x6_1] rfl pM ?_; (with_reducible refine (minstrelref13_operand.calls a1_0 a1_1 a1_2 a1_3 x6_1 t146 _ A11.out).mono ?_); rintro e w48 ⟨rfl, hb⟩; refine ⟨_, rfl, ?_⟩; replace BK142 := am (pkb BK142.out hb); replace BK143 := am (pkb BK143.out hb); replace HB := am (below_step pB hb); (try clear hb); (try clear hb2); (try clear hk); (try clear hi); have p13 : 0 ≤ (x6_1 : Int) := pD; have q13 : x6_1 < (t145.size : Int) := pD; have hx13 := bt_at t145 x6_1; replace p13 := eq_true p13; replace q13 := eq_true q13; have q49 := cf6 BK142.out))
          go_ret
          exact ⟨pE, pB⟩
         ·rw [if_neg c45] at H
          have c45b0 : decide (t146 < 0) = false := decide_eq_false c45
          clear c45
          by_cases c50 : t146 ≥ (l0_2.length : Int)
          ·rw [if_pos c50] at H
           have c50b0 : decide ((l0_2.length : Int) ≤ t146) = true := decide_eq_true c50
           clear c50
           obtain rfl := Option.some.inj H
           have hnb51 := NB143_142.out
           have hnc51 := NB142_143.out
           have q52 := cf4 BK143.out
           go_wp2_with (first | ((with_reducible refine gate_callee (f := 35) rfl ?_); refine goesL_ (some 24) rfl rfl Tryd.func35 (by kernel_rfl) rfl #[.agg #[.int .i64 a1_0, .int .i64 a1_1, .int .i64 a1_2, .int .i64 a1_3], .int .i64 x6_1] rfl pM ?_; (with_reducible refine (minstrelref13_operand.calls a1_0 a1_1 a1_2 a1_3 x6_1 t146 _ A11.out).mono ?_); rintro e w53 ⟨rfl, hb⟩; refine ⟨_, rfl, ?_⟩; replace BK142 := am (pkb BK142.out hb); replace BK143 := am (pkb BK143.out hb); replace HB := am (below_step pB hb); (try clear hb); (try clear hb2); (try clear hk); (try clear hi); have p13 : 0 ≤ (x6_1 : Int) := pD; have q13 : x6_1 < (t145.size : Int) := pD; have hx13 := bt_at t145 x6_1; replace p13 := eq_true p13; replace q13 := eq_true q13; have q54 := cf6 BK142.out))
           go_ret
           exact ⟨pE, pB⟩
          ·rw [if_neg c50] at H
           have c50b0 : decide ((l0_2.length : Int) ≤ t146) = false := decide_eq_false c50
           clear c50
           have H' := am H
           clear H
           have hnb55 := NB143_142.out
           have hnc55 := NB142_143.out
           have q56 := cf4 BK143.out
           go_wp2_with (first | ((with_reducible refine gate_callee (f := 35) rfl ?_); refine goesL_ (some 24) rfl rfl Tryd.func35 (by kernel_rfl) rfl #[.agg #[.int .i64 a1_0, .int .i64 a1_1, .int .i64 a1_2, .int .i64 a1_3], .int .i64 x6_1] rfl pM ?_; (with_reducible refine (minstrelref13_operand.calls a1_0 a1_1 a1_2 a1_3 x6_1 t146 _ A11.out).mono ?_); rintro e w57 ⟨rfl, hb⟩; refine ⟨_, rfl, ?_⟩; replace BK142 := am (pkb BK142.out hb); replace BK143 := am (pkb BK143.out hb); replace HB := am (below_step pB hb); (try clear hb); (try clear hb2); (try clear hk); (try clear hi); have p13 : 0 ≤ (x6_1 : Int) := pD; have q13 : x6_1 < (t145.size : Int) := pD; have hx13 := bt_at t145 x6_1; replace p13 := eq_true p13; replace q13 := eq_true q13; have q58 := cf6 BK142.out))
           go_roundg k1
           case measure => have := HK1.out; omega
           case rel => exact ⟨(wrap64 (x6_1 + 1)), (by first | rfl | (simp; done) | (simp [*]; done)), H', ⟨by have := HK1.out; omega⟩, ⟨by (with_reducible repeat (first | refine blk_drewN ?_ _ | refine blk_drew ?_ | refine blk_alloc ?_ _)); exact BK142.out⟩, ⟨by (with_reducible repeat (first | refine blk_drewN ?_ _ | refine blk_drew ?_ | refine blk_alloc ?_ _)); exact BK143.out⟩, ⟨pB⟩⟩
        ·rw [if_neg c44] at H
         have c44b0 : ((bt t145 x6_1) == 85) = false := beq_eq_false_iff_ne.mpr c44
         have c44b1 : ((bt t145 x6_1) != 85) = true := bne_iff_ne.mpr c44
         by_cases c59 : (bt t145 x6_1) = 80
         ·rw [if_pos c59] at H
          have c59b0 : ((bt t145 x6_1) == 80) = true := beq_iff_eq.mpr c59
          have c59b1 : ((bt t145 x6_1) != 80) = false := bne_eq_false_iff_eq.mpr c59
          clear c59
          by_cases c60 : t146 < 0
          ·rw [if_pos c60] at H
           have c60b0 : decide (t146 < 0) = true := decide_eq_true c60
           clear c60
           obtain rfl := Option.some.inj H
           have hnb61 := NB143_142.out
           have hnc61 := NB142_143.out
           have q62 := cf4 BK143.out
           go_wp2_with (first | ((with_reducible refine gate_callee (f := 35) rfl ?_); refine goesL_ (some 24) rfl rfl Tryd.func35 (by kernel_rfl) rfl #[.agg #[.int .i64 a1_0, .int .i64 a1_1, .int .i64 a1_2, .int .i64 a1_3], .int .i64 x6_1] rfl pM ?_; (with_reducible refine (minstrelref13_operand.calls a1_0 a1_1 a1_2 a1_3 x6_1 t146 _ A11.out).mono ?_); rintro e w63 ⟨rfl, hb⟩; refine ⟨_, rfl, ?_⟩; replace BK142 := am (pkb BK142.out hb); replace BK143 := am (pkb BK143.out hb); replace HB := am (below_step pB hb); (try clear hb); (try clear hb2); (try clear hk); (try clear hi); have p13 : 0 ≤ (x6_1 : Int) := pD; have q13 : x6_1 < (t145.size : Int) := pD; have hx13 := bt_at t145 x6_1; replace p13 := eq_true p13; replace q13 := eq_true q13; have q64 := cf6 BK142.out))
           go_ret
           exact ⟨pE, pB⟩
          ·rw [if_neg c60] at H
           have c60b0 : decide (t146 < 0) = false := decide_eq_false c60
           clear c60
           by_cases c65 : t146 ≥ (l0_5.length : Int)
           ·rw [if_pos c65] at H
            have c65b0 : decide ((l0_5.length : Int) ≤ t146) = true := decide_eq_true c65
            clear c65
            obtain rfl := Option.some.inj H
            have hnb66 := NB143_142.out
            have hnc66 := NB142_143.out
            have q67 := cf4 BK143.out
            go_wp2_with (first | ((with_reducible refine gate_callee (f := 35) rfl ?_); refine goesL_ (some 24) rfl rfl Tryd.func35 (by kernel_rfl) rfl #[.agg #[.int .i64 a1_0, .int .i64 a1_1, .int .i64 a1_2, .int .i64 a1_3], .int .i64 x6_1] rfl pM ?_; (with_reducible refine (minstrelref13_operand.calls a1_0 a1_1 a1_2 a1_3 x6_1 t146 _ A11.out).mono ?_); rintro e w68 ⟨rfl, hb⟩; refine ⟨_, rfl, ?_⟩; replace BK142 := am (pkb BK142.out hb); replace BK143 := am (pkb BK143.out hb); replace HB := am (below_step pB hb); (try clear hb); (try clear hb2); (try clear hk); (try clear hi); have p13 : 0 ≤ (x6_1 : Int) := pD; have q13 : x6_1 < (t145.size : Int) := pD; have hx13 := bt_at t145 x6_1; replace p13 := eq_true p13; replace q13 := eq_true q13; have q69 := cf6 BK142.out))
            go_ret
            exact ⟨pE, pB⟩
           ·rw [if_neg c65] at H
            have c65b0 : decide ((l0_5.length : Int) ≤ t146) = false := decide_eq_false c65
            clear c65
            have H' := am H
            clear H
            have hnb70 := NB143_142.out
            have hnc70 := NB142_143.out
            have q71 := cf4 BK143.out
            go_wp2_with (first | ((with_reducible refine gate_callee (f := 35) rfl ?_); refine goesL_ (some 24) rfl rfl Tryd.func35 (by kernel_rfl) rfl #[.agg #[.int .i64 a1_0, .int .i64 a1_1, .int .i64 a1_2, .int .i64 a1_3], .int .i64 x6_1] rfl pM ?_; (with_reducible refine (minstrelref13_operand.calls a1_0 a1_1 a1_2 a1_3 x6_1 t146 _ A11.out).mono ?_); rintro e w72 ⟨rfl, hb⟩; refine ⟨_, rfl, ?_⟩; replace BK142 := am (pkb BK142.out hb); replace BK143 := am (pkb BK143.out hb); replace HB := am (below_step pB hb); (try clear hb); (try clear hb2); (try clear hk); (try clear hi); have p13 : 0 ≤ (x6_1 : Int) := pD; have q13 : x6_1 < (t145.size : Int) := pD; have hx13 := bt_at t145 x6_1; replace p13 := eq_true p13; replace q13 := eq_true q13; have q73 := cf6 BK142.out))
            go_roundg k1
            case measure => have := HK1.out; omega
            case rel => exact ⟨(wrap64 (x6_1 + 1)), (by first | rfl | (simp; done) | (simp [*]; done)), H', ⟨by have := HK1.out; omega⟩, ⟨by (with_reducible repeat (first | refine blk_drewN ?_ _ | refine blk_drew ?_ | refine blk_alloc ?_ _)); exact BK142.out⟩, ⟨by (with_reducible repeat (first | refine blk_drewN ?_ _ | refine blk_drew ?_ | refine blk_alloc ?_ _)); exact BK143.out⟩, ⟨pB⟩⟩
         ·rw [if_neg c59] at H
          have c59b0 : ((bt t145 x6_1) == 80) = false := beq_eq_false_iff_ne.mpr c59
          have c59b1 : ((bt t145 x6_1) != 80) = true := bne_iff_ne.mpr c59
          by_cases c74 : (bt t145 x6_1) = 79
          ·rw [if_pos c74] at H
           have c74b0 : ((bt t145 x6_1) == 79) = true := beq_iff_eq.mpr c74
           have c74b1 : ((bt t145 x6_1) != 79) = false := bne_eq_false_iff_eq.mpr c74
           clear c74
           by_cases c75 : t146 < 0
           ·rw [if_pos c75] at H
            have c75b0 : decide (t146 < 0) = true := decide_eq_true c75
            clear c75
            obtain rfl := Option.some.inj H
            have hnb76 := NB143_142.out
            have hnc76 := NB142_143.out
            have q77 := cf4 BK143.out
            go_wp2_with (first | ((with_reducible refine gate_callee (f := 35) rfl ?_); refine goesL_ (some 24) rfl rfl Tryd.func35 (by kernel_rfl) rfl #[.agg #[.int .i64 a1_0, .int .i64 a1_1, .int .i64 a1_2, .int .i64 a1_3], .int .i64 x6_1] rfl pM ?_; (with_reducible refine (minstrelref13_operand.calls a1_0 a1_1 a1_2 a1_3 x6_1 t146 _ A11.out).mono ?_); rintro e w78 ⟨rfl, hb⟩; refine ⟨_, rfl, ?_⟩; replace BK142 := am (pkb BK142.out hb); replace BK143 := am (pkb BK143.out hb); replace HB := am (below_step pB hb); (try clear hb); (try clear hb2); (try clear hk); (try clear hi); have p13 : 0 ≤ (x6_1 : Int) := pD; have q13 : x6_1 < (t145.size : Int) := pD; have hx13 := bt_at t145 x6_1; replace p13 := eq_true p13; replace q13 := eq_true q13; have q79 := cf6 BK142.out))
            go_ret
            exact ⟨pE, pB⟩
           ·rw [if_neg c75] at H
            have c75b0 : decide (t146 < 0) = false := decide_eq_false c75
            clear c75
            by_cases c80 : t146 ≥ (l0_3.length : Int)
            ·rw [if_pos c80] at H
             have c80b0 : decide ((l0_3.length : Int) ≤ t146) = true := decide_eq_true c80
             clear c80
             obtain rfl := Option.some.inj H
             have hnb81 := NB143_142.out
             have hnc81 := NB142_143.out
             have q82 := cf4 BK143.out
             go_wp2_with (first | ((with_reducible refine gate_callee (f := 35) rfl ?_); refine goesL_ (some 24) rfl rfl Tryd.func35 (by kernel_rfl) rfl #[.agg #[.int .i64 a1_0, .int .i64 a1_1, .int .i64 a1_2, .int .i64 a1_3], .int .i64 x6_1] rfl pM ?_; (with_reducible refine (minstrelref13_operand.calls a1_0 a1_1 a1_2 a1_3 x6_1 t146 _ A11.out).mono ?_); rintro e w83 ⟨rfl, hb⟩; refine ⟨_, rfl, ?_⟩; replace BK142 := am (pkb BK142.out hb); replace BK143 := am (pkb BK143.out hb); replace HB := am (below_step pB hb); (try clear hb); (try clear hb2); (try clear hk); (try clear hi); have p13 : 0 ≤ (x6_1 : Int) := pD; have q13 : x6_1 < (t145.size : Int) := pD; have hx13 := bt_at t145 x6_1; replace p13 := eq_true p13; replace q13 := eq_true q13; have q84 := cf6 BK142.out))
             go_ret
             exact ⟨pE, pB⟩
            ·rw [if_neg c80] at H
             have c80b0 : decide ((l0_3.length : Int) ≤ t146) = false := decide_eq_false c80
             clear c80
             have H' := am H
             clear H
             have hnb85 := NB143_142.out
             have hnc85 := NB142_143.out
             have q86 := cf4 BK143.out
             go_wp2_with (first | ((with_reducible refine gate_callee (f := 35) rfl ?_); refine goesL_ (some 24) rfl rfl Tryd.func35 (by kernel_rfl) rfl #[.agg #[.int .i64 a1_0, .int .i64 a1_1, .int .i64 a1_2, .int .i64 a1_3], .int .i64 x6_1] rfl pM ?_; (with_reducible refine (minstrelref13_operand.calls a1_0 a1_1 a1_2 a1_3 x6_1 t146 _ A11.out).mono ?_); rintro e w87 ⟨rfl, hb⟩; refine ⟨_, rfl, ?_⟩; replace BK142 := am (pkb BK142.out hb); replace BK143 := am (pkb BK143.out hb); replace HB := am (below_step pB hb); (try clear hb); (try clear hb2); (try clear hk); (try clear hi); have p13 : 0 ≤ (x6_1 : Int) := pD; have q13 : x6_1 < (t145.size : Int) := pD; have hx13 := bt_at t145 x6_1; replace p13 := eq_true p13; replace q13 := eq_true q13; have q88 := cf6 BK142.out))
             go_roundg k1
             case measure => have := HK1.out; omega
             case rel => exact ⟨(wrap64 (x6_1 + 1)), (by first | rfl | (simp; done) | (simp [*]; done)), H', ⟨by have := HK1.out; omega⟩, ⟨by (with_reducible repeat (first | refine blk_drewN ?_ _ | refine blk_drew ?_ | refine blk_alloc ?_ _)); exact BK142.out⟩, ⟨by (with_reducible repeat (first | refine blk_drewN ?_ _ | refine blk_drew ?_ | refine blk_alloc ?_ _)); exact BK143.out⟩, ⟨pB⟩⟩
          ·rw [if_neg c74] at H
           have c74b0 : ((bt t145 x6_1) == 79) = false := beq_eq_false_iff_ne.mpr c74
           have c74b1 : ((bt t145 x6_1) != 79) = true := bne_iff_ne.mpr c74
           by_cases c89 : (bt t145 x6_1) = 78
           ·rw [if_pos c89] at H
            have c89b0 : ((bt t145 x6_1) == 78) = true := beq_iff_eq.mpr c89
            have c89b1 : ((bt t145 x6_1) != 78) = false := bne_eq_false_iff_eq.mpr c89
            clear c89
            by_cases c90 : t146 < 0
            ·rw [if_pos c90] at H
             have c90b0 : decide (t146 < 0) = true := decide_eq_true c90
             clear c90
             obtain rfl := Option.some.inj H
             have hnb91 := NB143_142.out
             have hnc91 := NB142_143.out
             have q92 := cf4 BK143.out
             go_wp2_with (first | ((with_reducible refine gate_callee (f := 35) rfl ?_); refine goesL_ (some 24) rfl rfl Tryd.func35 (by kernel_rfl) rfl #[.agg #[.int .i64 a1_0, .int .i64 a1_1, .int .i64 a1_2, .int .i64 a1_3], .int .i64 x6_1] rfl pM ?_; (with_reducible refine (minstrelref13_operand.calls a1_0 a1_1 a1_2 a1_3 x6_1 t146 _ A11.out).mono ?_); rintro e w93 ⟨rfl, hb⟩; refine ⟨_, rfl, ?_⟩; replace BK142 := am (pkb BK142.out hb); replace BK143 := am (pkb BK143.out hb); replace HB := am (below_step pB hb); (try clear hb); (try clear hb2); (try clear hk); (try clear hi); have p13 : 0 ≤ (x6_1 : Int) := pD; have q13 : x6_1 < (t145.size : Int) := pD; have hx13 := bt_at t145 x6_1; replace p13 := eq_true p13; replace q13 := eq_true q13))
             go_ret
             exact ⟨pE, pB⟩
            ·rw [if_neg c90] at H
             have c90b0 : decide (t146 < 0) = false := decide_eq_false c90
             clear c90
             by_cases c94 : t146 ≥ 31
             ·rw [if_pos c94] at H
              have c94b0 : decide (31 ≤ t146) = true := decide_eq_true c94
              clear c94
              obtain rfl := Option.some.inj H
              have hnb95 := NB143_142.out
              have hnc95 := NB142_143.out
              have q96 := cf4 BK143.out
              go_wp2_with (first | ((with_reducible refine gate_callee (f := 35) rfl ?_); refine goesL_ (some 24) rfl rfl Tryd.func35 (by kernel_rfl) rfl #[.agg #[.int .i64 a1_0, .int .i64 a1_1, .int .i64 a1_2, .int .i64 a1_3], .int .i64 x6_1] rfl pM ?_; (with_reducible refine (minstrelref13_operand.calls a1_0 a1_1 a1_2 a1_3 x6_1 t146 _ A11.out).mono ?_); rintro e w97 ⟨rfl, hb⟩; refine ⟨_, rfl, ?_⟩; replace BK142 := am (pkb BK142.out hb); replace BK143 := am (pkb BK143.out hb); replace HB := am (below_step pB hb); (try clear hb); (try clear hb2); (try clear hk); (try clear hi); have p13 : 0 ≤ (x6_1 : Int) := pD; have q13 : x6_1 < (t145.size : Int) := pD; have hx13 := bt_at t145 x6_1; replace p13 := eq_true p13; replace q13 := eq_true q13))
              go_ret
              exact ⟨pE, pB⟩
             ·rw [if_neg c94] at H
              have c94b0 : decide (31 ≤ t146) = false := decide_eq_false c94
              clear c94
              have H' := am H
              clear H
              have hnb98 := NB143_142.out
              have hnc98 := NB142_143.out
              have q99 := cf4 BK143.out
              go_wp2_with (first | ((with_reducible refine gate_callee (f := 35) rfl ?_); refine goesL_ (some 24) rfl rfl Tryd.func35 (by kernel_rfl) rfl #[.agg #[.int .i64 a1_0, .int .i64 a1_1, .int .i64 a1_2, .int .i64 a1_3], .int .i64 x6_1] rfl pM ?_; (with_reducible refine (minstrelref13_operand.calls a1_0 a1_1 a1_2 a1_3 x6_1 t146 _ A11.out).mono ?_); rintro e w100 ⟨rfl, hb⟩; refine ⟨_, rfl, ?_⟩; replace BK142 := am (pkb BK142.out hb); replace BK143 := am (pkb BK143.out hb); replace HB := am (below_step pB hb); (try clear hb); (try clear hb2); (try clear hk); (try clear hi); have p13 : 0 ≤ (x6_1 : Int) := pD; have q13 : x6_1 < (t145.size : Int) := pD; have hx13 := bt_at t145 x6_1; replace p13 := eq_true p13; replace q13 := eq_true q13))
              go_roundg k1
              case measure => have := HK1.out; omega
              case rel => exact ⟨(wrap64 (x6_1 + 1)), (by first | rfl | (simp; done) | (simp [*]; done)), H', ⟨by have := HK1.out; omega⟩, ⟨by (with_reducible repeat (first | refine blk_drewN ?_ _ | refine blk_drew ?_ | refine blk_alloc ?_ _)); exact BK142.out⟩, ⟨by (with_reducible repeat (first | refine blk_drewN ?_ _ | refine blk_drew ?_ | refine blk_alloc ?_ _)); exact BK143.out⟩, ⟨pB⟩⟩
           ·rw [if_neg c89] at H
            have c89b0 : ((bt t145 x6_1) == 78) = false := beq_eq_false_iff_ne.mpr c89
            have c89b1 : ((bt t145 x6_1) != 78) = true := bne_iff_ne.mpr c89
            by_cases c101 : t146 < 0
            ·rw [if_pos c101] at H
             have c101b0 : decide (t146 < 0) = true := decide_eq_true c101
             clear c101
             obtain rfl := Option.some.inj H
             have hnb102 := NB143_142.out
             have hnc102 := NB142_143.out
             have q103 := cf4 BK143.out
             go_wp2_with (first | ((with_reducible refine gate_callee (f := 35) rfl ?_); refine goesL_ (some 24) rfl rfl Tryd.func35 (by kernel_rfl) rfl #[.agg #[.int .i64 a1_0, .int .i64 a1_1, .int .i64 a1_2, .int .i64 a1_3], .int .i64 x6_1] rfl pM ?_; (with_reducible refine (minstrelref13_operand.calls a1_0 a1_1 a1_2 a1_3 x6_1 t146 _ A11.out).mono ?_); rintro e w104 ⟨rfl, hb⟩; refine ⟨_, rfl, ?_⟩; replace BK142 := am (pkb BK142.out hb); replace BK143 := am (pkb BK143.out hb); replace HB := am (below_step pB hb); (try clear hb); (try clear hb2); (try clear hk); (try clear hi); have p13 : 0 ≤ (x6_1 : Int) := pD; have q13 : x6_1 < (t145.size : Int) := pD; have hx13 := bt_at t145 x6_1; replace p13 := eq_true p13; replace q13 := eq_true q13))
             go_ret
             exact ⟨pE, pB⟩
            ·rw [if_neg c101] at H
             have c101b0 : decide (t146 < 0) = false := decide_eq_false c101
             clear c101
             by_cases c105 : t146 ≥ 0
             ·rw [if_pos c105] at H
              have c105b0 : decide (0 ≤ t146) = true := decide_eq_true c105
              clear c105
              obtain rfl := Option.some.inj H
              have hnb106 := NB143_142.out
              have hnc106 := NB142_143.out
              have q107 := cf4 BK143.out
              go_wp2_with (first | ((with_reducible refine gate_callee (f := 35) rfl ?_); refine goesL_ (some 24) rfl rfl Tryd.func35 (by kernel_rfl) rfl #[.agg #[.int .i64 a1_0, .int .i64 a1_1, .int .i64 a1_2, .int .i64 a1_3], .int .i64 x6_1] rfl pM ?_; (with_reducible refine (minstrelref13_operand.calls a1_0 a1_1 a1_2 a1_3 x6_1 t146 _ A11.out).mono ?_); rintro e w108 ⟨rfl, hb⟩; refine ⟨_, rfl, ?_⟩; replace BK142 := am (pkb BK142.out hb); replace BK143 := am (pkb BK143.out hb); replace HB := am (below_step pB hb); (try clear hb); (try clear hb2); (try clear hk); (try clear hi); have p13 : 0 ≤ (x6_1 : Int) := pD; have q13 : x6_1 < (t145.size : Int) := pD; have hx13 := bt_at t145 x6_1; replace p13 := eq_true p13; replace q13 := eq_true q13))
              go_ret
              exact ⟨pE, pB⟩
             ·rw [if_neg c105] at H
              have c105b0 : decide (0 ≤ t146) = false := decide_eq_false c105
              clear c105
              have H' := am H
              clear H
              have hnb109 := NB143_142.out
              have hnc109 := NB142_143.out
              have q110 := cf4 BK143.out
              go_wp2_with (first | ((with_reducible refine gate_callee (f := 35) rfl ?_); refine goesL_ (some 24) rfl rfl Tryd.func35 (by kernel_rfl) rfl #[.agg #[.int .i64 a1_0, .int .i64 a1_1, .int .i64 a1_2, .int .i64 a1_3], .int .i64 x6_1] rfl pM ?_; (with_reducible refine (minstrelref13_operand.calls a1_0 a1_1 a1_2 a1_3 x6_1 t146 _ A11.out).mono ?_); rintro e w111 ⟨rfl, hb⟩; refine ⟨_, rfl, ?_⟩; replace BK142 := am (pkb BK142.out hb); replace BK143 := am (pkb BK143.out hb); replace HB := am (below_step pB hb); (try clear hb); (try clear hb2); (try clear hk); (try clear hi); have p13 : 0 ≤ (x6_1 : Int) := pD; have q13 : x6_1 < (t145.size : Int) := pD; have hx13 := bt_at t145 x6_1; replace p13 := eq_true p13; replace q13 := eq_true q13))
              go_roundg k1
              case measure => have := HK1.out; omega
              case rel => exact ⟨(wrap64 (x6_1 + 1)), (by first | rfl | (simp; done) | (simp [*]; done)), H', ⟨by have := HK1.out; omega⟩, ⟨by (with_reducible repeat (first | refine blk_drewN ?_ _ | refine blk_drew ?_ | refine blk_alloc ?_ _)); exact BK142.out⟩, ⟨by (with_reducible repeat (first | refine blk_drewN ?_ _ | refine blk_drew ?_ | refine blk_alloc ?_ _)); exact BK143.out⟩, ⟨pB⟩⟩
     ·rw [if_neg c12] at H
      exact absurd H (by simp)
    ·rw [if_neg c10] at H
     have c10b0 : decide (x6_1 < (t145.size : Int)) = false := decide_eq_false c10
     clear c10
     by_cases c112 : a1_0 = 32
     ·rw [if_pos c112] at H
      have c112b0 : (a1_0 == 32) = true := beq_iff_eq.mpr c112
      have c112b1 : (a1_0 != 32) = false := bne_eq_false_iff_eq.mpr c112
      clear c112
      by_cases c113 : a1_2 ≥ (wrap64 (a0_1 - a1_1))
      ·rw [if_pos c113] at H
       have c113b0 : decide ((wrap64 (a0_1 - a1_1)) ≤ a1_2) = true := decide_eq_true c113
       clear c113
       obtain rfl := Option.some.inj H
       have hnb114 := NB143_142.out
       have hnc114 := NB142_143.out
       have q115 := cf4 BK143.out
       have q116 := cf6 BK142.out
       go_wp2
       go_ret
       exact ⟨pE, pB⟩
      ·rw [if_neg c113] at H
       have c113b0 : decide ((wrap64 (a0_1 - a1_1)) ≤ a1_2) = false := decide_eq_false c113
       clear c113
       by_cases c117 : a1_0 = 36
       ·rw [if_pos c117] at H
        have c117b0 : (a1_0 == 36) = true := beq_iff_eq.mpr c117
        have c117b1 : (a1_0 != 36) = false := bne_eq_false_iff_eq.mpr c117
        clear c117
        obtain rfl := Option.some.inj H
        have hnb118 := NB143_142.out
        have hnc118 := NB142_143.out
        have q119 := cf4 BK143.out
        have q120 := cf6 BK142.out
        go_wp2
        go_ret
        exact ⟨pE, pB⟩
       ·rw [if_neg c117] at H
        have c117b0 : (a1_0 == 36) = false := beq_eq_false_iff_ne.mpr c117
        have c117b1 : (a1_0 != 36) = true := bne_iff_ne.mpr c117
        by_cases c121 : a1_0 = 37
        ·rw [if_pos c121] at H
         have c121b0 : (a1_0 == 37) = true := beq_iff_eq.mpr c121
         have c121b1 : (a1_0 != 37) = false := bne_eq_false_iff_eq.mpr c121
         clear c121
         obtain rfl := Option.some.inj H
         have hnb122 := NB143_142.out
         have hnc122 := NB142_143.out
         have q123 := cf4 BK143.out
         have q124 := cf6 BK142.out
         go_wp2
         go_ret
         exact ⟨pE, pB⟩
        ·rw [if_neg c121] at H
         have c121b0 : (a1_0 == 37) = false := beq_eq_false_iff_ne.mpr c121
         have c121b1 : (a1_0 != 37) = true := bne_iff_ne.mpr c121
         obtain rfl := Option.some.inj H
         have hnb125 := NB143_142.out
         have hnc125 := NB142_143.out
         have q126 := cf4 BK143.out
         have q127 := cf6 BK142.out
         go_wp2
         go_ret
         exact ⟨pE, pB⟩
     ·rw [if_neg c112] at H
      have c112b0 : (a1_0 == 32) = false := beq_eq_false_iff_ne.mpr c112
      have c112b1 : (a1_0 != 32) = true := bne_iff_ne.mpr c112
      by_cases c128 : a1_0 = 36
      ·rw [if_pos c128] at H
       have c128b0 : (a1_0 == 36) = true := beq_iff_eq.mpr c128
       have c128b1 : (a1_0 != 36) = false := bne_eq_false_iff_eq.mpr c128
       clear c128
       obtain rfl := Option.some.inj H
       have hnb129 := NB143_142.out
       have hnc129 := NB142_143.out
       have q130 := cf4 BK143.out
       have q131 := cf6 BK142.out
       go_wp2
       go_ret
       exact ⟨pE, pB⟩
      ·rw [if_neg c128] at H
       have c128b0 : (a1_0 == 36) = false := beq_eq_false_iff_ne.mpr c128
       have c128b1 : (a1_0 != 36) = true := bne_iff_ne.mpr c128
       by_cases c132 : a1_0 = 37
       ·rw [if_pos c132] at H
        have c132b0 : (a1_0 == 37) = true := beq_iff_eq.mpr c132
        have c132b1 : (a1_0 != 37) = false := bne_eq_false_iff_eq.mpr c132
        clear c132
        obtain rfl := Option.some.inj H
        have hnb133 := NB143_142.out
        have hnc133 := NB142_143.out
        have q134 := cf4 BK143.out
        have q135 := cf6 BK142.out
        go_wp2
        go_ret
        exact ⟨pE, pB⟩
       ·rw [if_neg c132] at H
        have c132b0 : (a1_0 == 37) = false := beq_eq_false_iff_ne.mpr c132
        have c132b1 : (a1_0 != 37) = true := bne_iff_ne.mpr c132
        obtain rfl := Option.some.inj H
        have hnb136 := NB143_142.out
        have hnc136 := NB142_143.out
        have q137 := cf4 BK143.out
        go_wp2
        go_ret
        exact ⟨pE, pB⟩
 ·replace c4 := Bool.eq_false_iff.mpr c4
  subst c4
  rw [if_neg (show ¬ (false = true) by decide)] at H
  obtain rfl := Option.some.inj H
  go_enter Tryd.func70, Tryd.ntmps70
  go_wp2_with (first | ((with_reducible refine gate_dst (N := 2) rfl ?_); refine box_event ?hg (N := 2) ?hd (cs := #[.int .i64 a0_0, .int .i64 a0_1, .slice A0_2 l0_2.length c0_2, .slice A0_3 l0_3.length c0_3, .slice A0_4 l0_4.length c0_4, .slice A0_5 l0_5.length c0_5]) (t := 27) ?hr ?_; (case hd => rfl); (case hg => rfl); (case hr => first | (go_simp; done) | (go_simp; rfl)); intro gb142 hg w138 hbox hb; have BK142 := am (hbox); have GW142 := am ((by rw [hg]; exact (below_size pB) : w.heap.size ≤ gb142)); have GE142 := am ((by rw [hg]; exact (below_size pB) : w.heap.size ≤ gb142)); replace HB := am (below_step pB hb); clear hb hbox hg) | ((with_reducible refine gate_dst (N := 3) rfl ?_); refine box_event ?hg (N := 3) ?hd (cs := #[.int .i64 a1_0, .int .i64 a1_1, .int .i64 a1_2, .int .i64 a1_3]) (t := 36) ?hr ?_; (case hd => rfl); (case hg => rfl); (case hr => first | (go_simp; done) | (go_simp; rfl)); intro gb143 hg w139 hbox hb; have BK143 := am (hbox); have GW143 := am ((by rw [hg]; exact (below_size pB) : w.heap.size ≤ gb143)); have GE143 := am ((by rw [hg]; exact (below_size pB) : w.heap.size ≤ gb143)); have NB142_143 := am ((by rw [hg]; exact Nat.ne_of_lt (pkl BK142.out) : gb142 ≠ gb143)); have NB143_142 := am ((by rw [hg]; exact Nat.ne_of_gt (pkl BK142.out) : gb143 ≠ gb142)); replace BK142 := am (pkb BK142.out hb); replace HB := am (below_step pB hb); clear hb hbox hg; have hnb140 := NB143_142.out; have hnc140 := NB142_143.out; have q141 := cf4 BK143.out) | ((with_reducible refine gate_callee (f := 34) rfl ?_); refine goesL_ (some 11) rfl rfl Tryd.func34 (by kernel_rfl) rfl #[.int .i64 a1_0] rfl pM ?_; (with_reducible refine (minstrelref13_Is.calls a1_0 false _ A3.out).mono ?_); rintro e w' ⟨rfl, ⟨nd, rfl⟩⟩; refine ⟨_, rfl, ?_⟩))
  go_ret
  exact ⟨pE, pB⟩
end Go.Proofs.YtlhnkfheojlghaaDoor.Pr
end
