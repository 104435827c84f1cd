/- A part of the proof of the law that RowSnapEntries shows: lemmas, and contracts of the calls that it reaches. -/
import Derived.Test.YtlkaffbgekbcfaaDoorProg
import Derived.Below
import Derived.Deep.Draws
import Derived.Deep.AppendLies
import Derived.Maps.AppendAt
import Derived.OwnWalk
import Derived.Laws.BytesArg
import Derived.Laws.MakeOwn
import Derived.Laws.OwnMore
import Derived.Deep.OwnRows
import Derived.Tactics
import Derived.Lib.ConvBytes
import Derived.Laws.Slices
import Derived.WalkKit
import Derived.KernelRfl
import Derived.RowKit3
import Derived.Deep.LoopGhost
import Derived.Deep.QuietTactic
import Derived.BigQuiet
import Derived.WideLaws
import Derived.Deep.DeepCutAuto
import Derived.Deep.CutBlock
import Derived.Deep.RegionHeld3
import Derived.Laws.Rows
import Derived.Lib.AppendStr
import Derived.ArgAppend
import Derived.Laws.IdiomCopy
import Derived.OrdersHeld
import Derived.Laws.BitsLemmas
import Derived.RowKit
import Derived.Test.YtlkaffbgekbcfaaDoorZD0
import Derived.Lib.SliceRun
import Derived.Deep.RegionWith
import Derived.Defers
import Derived.Recover
import Derived.WalkSmall
import Derived.Outline
import Derived.IntWalk
import Derived.Deep.RegionLaw
import Derived.Tactics2
import Derived.Laws.Pointers
set_option linter.unusedVariables false
set_option linter.unusedSimpArgs false
section
namespace Go.Proofs.YtlkaffbgekbcfaaDoor.Pr
open Go.RowKit Go.Proofs.YtlkaffbgekbcfaaDoorW.PrintWords Go.Proofs.YtlkaffbgekbcfaaDoorW.PrintLast Go.Proofs.YtlkaffbgekbcfaaDoorW.PrintMore
attribute [local go_sem] max2_int min2_int max_two min_two max_three min_three max_four min_four
def errW : Option Int → Value
  | none => .nilIface
  | some c => .iface 0 (.int .i64 c)
theorem errW_none : errW none = .nilIface := rfl
theorem errW_some (c : Int) : errW (some c) = .iface 0 (.int .i64 c) := rfl
theorem info3 : (Tryd.prog.info? 3).map (fun i => (i.zero, i.size, i.bytes)) = some (some (.int .i64 0), 1, 8) := by kernel_rfl
theorem info5 : (Tryd.prog.info? 5).map (fun i => (i.zero, i.size, i.bytes)) = some (some (.int .u8 0), 1, 1) := by kernel_rfl
theorem info26 : (Tryd.prog.info? 26).map (fun i => (i.zero, i.size, i.bytes)) = some (some (.agg #[(.int .i64 0), (.int .u64 0), (.string ⟨#[]⟩), (.slice none 0 0)]), 4, 56) := by kernel_rfl
structure S26 where
  f0 : Int
  f1 : Int
  f2 : ByteArray
  f3 : (List S26)
def z26 : S26 := ⟨(0 : Int), (0 : Int), (⟨#[]⟩ : ByteArray), ([] : List S26)⟩
def F26 (d : Kd S26) : Kd S26 := Kd.iso (Kd.pair (Kd.int .i64) (Kd.pair (Kd.int .u64) (Kd.pair Kd.string (Kd.slice 26 d)))) (fun x : S26 => (x.f0, x.f1, x.f2, x.f3))
theorem mono26 : Kd.Mono F26 := Kd.mono_iso _ (Kd.mono_pair (Kd.mono_const _) (Kd.mono_pair (Kd.mono_const _) (Kd.mono_pair (Kd.mono_const _) (Kd.mono_slice 26 Kd.mono_id))))
theorem sub26 : Kd.Sub F26 [26] := Kd.sub_iso _ (Kd.sub_pair (Kd.sub_const _ (by decide)) (Kd.sub_pair (Kd.sub_const _ (by decide)) (Kd.sub_pair (Kd.sub_const _ (by decide)) (Kd.sub_slice 26 (by decide) Kd.sub_id))))
theorem sz26 : ∀ n, (Kd.upto F26 4 [26] n).sz = 4 := Kd.upto_sz (fun _ => rfl)
def k26 : Kd S26 := Kd.fix F26 4 [26] sz26 (Kd.upto_E sub26)
theorem k26_heap : Kd.Heap k26 := Kd.heap_fix (fun _ h_ => Kd.heap_iso _ (Kd.heap_pair (Kd.heap_int .i64) (Kd.heap_pair (Kd.heap_int .u64) (Kd.heap_pair Kd.heap_string (Kd.heap_slice 26 h_)))))
theorem k26_open {w : World} {x : S26} {cs : List Value} (h : k26.K w x cs) : ∃ A3 c3, cs = [.int .i64 x.f0, .int .u64 x.f1, .string x.f2, .slice A3 x.f3.length c3] ∧ x.f3.length ≤ c3 ∧ k26.C w A3 x.f3.length x.f3 := by
  obtain ⟨n, h⟩ := h
  cases n with
  | zero => exact h.elim
  | succ n =>
    obtain ⟨_, _, rfl, rfl, ⟨_, _, rfl, rfl, ⟨_, _, rfl, rfl, ⟨A3, c3, rfl, l3, g3⟩⟩⟩⟩ := h
    exact ⟨A3, c3, rfl, l3, Kd.fix_C g3⟩
theorem k26_openM {w : World} {base : Nat} {ok : Nat → Prop} {x : S26} {cs : List Value} (h : k26.M w base ok x cs) : ∃ v3, cs = [.int .i64 x.f0, .int .u64 x.f1, .string x.f2, v3] ∧ k26.R 26 w base ok v3 x.f3 := by
  obtain ⟨n, h⟩ := h
  cases n with
  | zero => exact h.elim
  | succ n =>
    obtain ⟨_, _, rfl, rfl, ⟨_, _, rfl, rfl, ⟨_, _, rfl, rfl, ⟨v3, rfl, g3⟩⟩⟩⟩ := h
    exact ⟨v3, rfl, Kd.fix_R g3⟩
theorem k26_mk (w : World) (x : S26) {A3 : Option Addr} {c3 : Nat} (l3 : x.f3.length ≤ c3) (g3 : k26.C w A3 x.f3.length x.f3) : k26.K w x [.int .i64 x.f0, .int .u64 x.f1, .string x.f2, .slice A3 x.f3.length c3] := by
  obtain ⟨n3, q3⟩ := Kd.fix_C_back mono26 g3
  have r3 := Kd.upto_C_le mono26 sz26 (show n3 ≤ n3 by omega) q3
  exact ⟨n3 + 1, ⟨[.int .i64 x.f0], [.int .u64 x.f1, .string x.f2, .slice A3 x.f3.length c3], rfl, rfl, ⟨[.int .u64 x.f1], [.string x.f2, .slice A3 x.f3.length c3], rfl, rfl, ⟨[.string x.f2], [.slice A3 x.f3.length c3], rfl, rfl, ⟨A3, c3, rfl, l3, r3⟩⟩⟩⟩⟩
theorem k26_mkM (w : World) (base : Nat) (ok : Nat → Prop) (x : S26) {v3 : Value} (g3 : k26.R 26 w base ok v3 x.f3) : k26.M w base ok x [.int .i64 x.f0, .int .u64 x.f1, .string x.f2, v3] := by
  obtain ⟨n3, q3⟩ := Kd.fix_R_back mono26 g3
  have r3 := Kd.upto_R_le mono26 sz26 (show n3 ≤ n3 by omega) q3
  exact ⟨n3 + 1, ⟨[.int .i64 x.f0], [.int .u64 x.f1, .string x.f2, v3], rfl, rfl, ⟨[.int .u64 x.f1], [.string x.f2, v3], rfl, rfl, ⟨[.string x.f2], [v3], rfl, rfl, ⟨v3, rfl, r3⟩⟩⟩⟩⟩
theorem k26_openF {W : World} {ok : Nat → Prop} {x : S26} {cs : List Value} (h : Kd.FK k26 W ok x cs) : ∃ A3 c3, cs = [.int .i64 x.f0, .int .u64 x.f1, .string x.f2, .slice A3 x.f3.length c3] ∧ x.f3.length ≤ c3 ∧ Kd.F k26 W ok A3 x.f3.length x.f3 := by
  obtain ⟨A3, c3, rfl, l3, _⟩ := k26_open (Kd.FK_now h)
  exact ⟨A3, c3, rfl, l3, (fun W' hW => by obtain ⟨A3_, c3_, he, l3_, g3_⟩ := k26_open (h W' hW); injection (Option.some.inj (show some (Value.slice A3 x.f3.length c3) = some (Value.slice A3_ x.f3.length c3_) from congrArg (fun l => l[3]?) he)) with ha_ _ _; rw [ha_]; exact g3_)⟩
theorem k26_mkF (W : World) (ok : Nat → Prop) (x : S26) {A3 : Option Addr} {c3 : Nat} (l3 : x.f3.length ≤ c3) (g3 : Kd.F k26 W ok A3 x.f3.length x.f3) : Kd.FK k26 W ok x [.int .i64 x.f0, .int .u64 x.f1, .string x.f2, .slice A3 x.f3.length c3] := fun W2 hW => k26_mk W2 x l3 (g3 W2 hW)
def rd_T26 (xs : List S26) (i : Int) : S26 := xs.getD i.toNat z26
theorem at_T26 {w : World} {A : Option Addr} {n : Nat} {xs : List S26} (h : Kd.C k26 w A n xs) (i : Int) (h0 : 0 ≤ i) (h1 : i < n) : ∃ ad A3 c3, A = some ad ∧ w.cell? (ad.add (i.toNat * 4)) = some (.int .i64 (rd_T26 xs i).f0) ∧ w.cell? ⟨(ad.add (i.toNat * 4)).block, (ad.add (i.toNat * 4)).off + 1, none⟩ = some (.int .u64 (rd_T26 xs i).f1) ∧ w.cell? ⟨(ad.add (i.toNat * 4)).block, (ad.add (i.toNat * 4)).off + 2, none⟩ = some (.string (rd_T26 xs i).f2) ∧ w.cell? ⟨(ad.add (i.toNat * 4)).block, (ad.add (i.toNat * 4)).off + 3, none⟩ = some (.slice A3 (rd_T26 xs i).f3.length c3) ∧ (rd_T26 xs i).f3.length ≤ c3 ∧ k26.C w A3 (rd_T26 xs i).f3.length (rd_T26 xs i).f3 := by
  obtain ⟨ad, c, e, _, hK, hc0⟩ := Kd.C_get h z26 i h0 h1
  have hc : ∀ j u, c[j]? = some u → w.cell? (ad.add (i.toNat * 4 + j)) = some u := hc0
  obtain ⟨A3, c3, rfl, l3, g3⟩ := k26_open hK
  exact ⟨ad, A3, c3, e, hc 0 _ rfl, by rw [← add_field _ _ 1 (by omega)]; exact hc 1 _ rfl, by rw [← add_field _ _ 2 (by omega)]; exact hc 2 _ rfl, by rw [← add_field _ _ 3 (by omega)]; exact hc 3 _ rfl, l3, g3⟩
def rd_L5 (xs : List (List Int)) (i : Int) : (List Int) := xs.getD i.toNat ([] : List Int)
end Go.Proofs.YtlkaffbgekbcfaaDoor.Pr
end
section
namespace Go.Proofs.YtlkaffbgekbcfaaDoor.Pr
open Go.RowKit Go.Proofs.YtlkaffbgekbcfaaDoorW.PrintWords Go.Proofs.YtlkaffbgekbcfaaDoorW.PrintLast Go.Proofs.YtlkaffbgekbcfaaDoorW.PrintMore
theorem infoU8 : (Tryd.prog.info? 5).map (fun i => (i.zero, i.size, i.bytes)) = some (some (.int .u8 0), 1, 1) := by kernel_rfl
def xrd (xs : List (List Int)) (i : Int) : (List Int) := xs.getD i.toNat ([] : List Int)
theorem xat {w : World} {A : Option Addr} {n : Nat} {xs : List (List Int)} (h : Kd.C (Kd.slice 5 (Kd.int .u8)) w A n xs) (i : Int) (h0 : 0 ≤ i) (h1 : i < n) : ∃ ad A0 c0, A = some ad ∧ w.cell? (ad.add i.toNat) = some (.slice A0 (xrd xs i).length c0) ∧ (xrd xs i).length ≤ c0 ∧ (Kd.int .u8).C w A0 (xrd xs i).length (xrd xs i) := by
 obtain ⟨ad, c, e, _, hK, hc0⟩ := Kd.C_get h ([] : List Int) i h0 h1
 have hc : ∀ j u, c[j]? = some u → w.cell? (ad.add (i.toNat * 1 + j)) = some u := hc0
 obtain ⟨A0, c0, rfl, l0, g0⟩ := hK
 exact ⟨ad, A0, c0, e, by have hq := hc 0 _ rfl; rwa [Nat.mul_one, Nat.add_zero] at hq, l0, g0⟩
def quarterVals : List Int := [0, 498536548, 997073096, 651767980, 1994146192, 1802195444, 1303535960, 1342533948, 3988292384, 4027552580, 3604390888, 3412177804, 2607071920, 2262029012, 2685067896, 3183342108]
def QuarterLaid (w : World) : Prop := ∀ i, i < 16 → w.cell? ⟨0, i, none⟩ = some (.int .u32 (rd quarterVals i))
def crcNib (c : Int) : Int := Go.bits .xor .u32 (c / 16) (rd quarterVals (Go.bits .and .u32 c 15))
def crcByte (c x : Int) : Int := crcNib (crcNib (Go.bits .xor .u32 c (x % 4294967296)))
def crcBytes (c : Int) (l : List Int) : Int := l.foldl crcByte c
def crcParts (c : Int) (l : List (List Int)) : Int := l.foldl crcBytes c
def frame_sum.f (l0 : List (List Int)) : Option Int := some (Go.bits .xor .u32 4294967295 (crcParts 4294967295 l0))
theorem and15 (c : Int) : 0 ≤ Go.bits .and .u32 c 15 ∧ Go.bits .and .u32 c 15 < 16 := by
 have h : Go.bits .and .u32 c 15 = (((BitVec.ofInt 32 c).toNat &&& 15 : Nat) : Int) := by
  have := Nat.and_le_right (n := (BitVec.ofInt 32 c).toNat) (m := 15)
  unfold Go.bits
  rw [show IntKind.u32.bits = 32 from rfl]
  simp only [BitVec.toNat_and]
  rw [show (BitVec.ofInt 32 15).toNat = 15 from rfl, IntKind.wrap_u32]
  omega
 have := Nat.and_le_right (n := (BitVec.ofInt 32 c).toNat) (m := 15)
 rw [h]; omega
theorem take_snoc_L {α : Type} (l : List α) (k : Nat) (d : α) (h : k < l.length) : l.take (k + 1) = l.take k ++ [l.getD k d] := by
 rw [List.take_succ_eq_append_getElem h]; simp [List.getD_eq_getElem?_getD, List.getElem?_eq_getElem h]
theorem crcBytes_snoc (c : Int) (l : List Int) (x : Int) : crcBytes c (l ++ [x]) = crcByte (crcBytes c l) x := by simp [crcBytes]
theorem crcParts_snoc (c : Int) (l : List (List Int)) (x : List Int) : crcParts c (l ++ [x]) = crcBytes (crcParts c l) x := by simp [crcParts]
set_option maxRecDepth 100000 in
set_option maxHeartbeats 1000000 in
theorem frame_sum.calls (A0 : Option Addr) (c0 : Nat) (l0 : List (List Int)) (r : Int) (w : World) (hr0 : Kd.C (Kd.slice 5 (Kd.int .u8)) w A0 l0.length l0) (hc0 : l0.length ≤ c0) (hG : QuarterLaid w) (h : frame_sum.f l0 = some r) :
  Calls Tryd.prog 50 #[.slice A0 l0.length c0] w fun e w' => e = .returned (.int .u32 r) ∧ Drawn0 w w' := by
 obtain rfl := Option.some.inj h
 clear h
 have HR0 := Aside0.mk hr0
 have HG := Aside0.mk hG
 have HL0 := Kd.C_max hr0
 clear hr0 hG
 go_enter Tryd.func50, Tryd.ntmps50
 go_wp2
 go_loop [3, 10] (fun c i => ∃ (cv : Int) (k : Nat), Aside0 (cv = crcParts 4294967295 (l0.take k)) ∧ k ≤ l0.length ∧ i = .int .i64 k ∧ c = .int .u32 cv) (fun _ i => l0.length - (intOf i).toNat)
 case atStart => exact ⟨_, 0, ⟨rfl⟩, Nat.zero_le _, rfl, rfl⟩
 case round =>
  obtain ⟨cv, k, HE, hk, rfl, rfl⟩ := hrel
  by_cases hlt : k < l0.length
  ·obtain ⟨ad, A1, c1, rfl, hx, hc1, hr1⟩ := xat HR0.out (k : Int) (by omega) (by omega)
   rw [Int.toNat_natCast] at hx
   obtain ⟨x, Hx⟩ : ∃ x, Aside0 (x = xrd l0 (k : Int)) := ⟨_, ⟨rfl⟩⟩
   rw [← Hx.out] at hx hc1 hr1
   have HR1 := Aside0.mk hr1
   have HL1 := Kd.C_max hr1
   clear hr1
   go_wp2
   go_loop [3, 16] (fun c i => ∃ (cu : Int) (j : Nat), Aside0 (cu = crcBytes cv (x.take j)) ∧ j ≤ x.length ∧ i = .int .i64 j ∧ c = .int .u32 cu) (fun _ i => x.length - (intOf i).toNat)
   case atStart => exact ⟨_, 0, ⟨rfl⟩, Nat.zero_le _, rfl, rfl⟩
   case round =>
    obtain ⟨cu, j, HE1, hj, rfl, rfl⟩ := hrel
    by_cases hlt1 : j < x.length
    ·obtain ⟨ad1, rfl, hy⟩ := Kd.at_int HR1.out (j : Int) (by omega) (by omega)
     rw [Int.toNat_natCast] at hy
     obtain ⟨y, Hy⟩ : ∃ y, Aside0 (y = rd x (j : Int)) := ⟨_, ⟨rfl⟩⟩
     rw [← Hy.out] at hy
     obtain ⟨e1, He1⟩ : ∃ e, Aside0 (e = Go.bits .xor .u32 cu (y % 4294967296)) := ⟨_, ⟨rfl⟩⟩
     obtain ⟨e2, He2⟩ : ∃ e, Aside0 (e = Go.bits .xor .u32 (e1 / 16) (rd quarterVals (Go.bits .and .u32 e1 15))) := ⟨_, ⟨rfl⟩⟩
     have hb1 := and15 e1
     have hb2 := and15 e2
     have hq1 := HG.out (Go.bits .and .u32 e1 15).toNat (by omega)
     have hq2 := HG.out (Go.bits .and .u32 e2 15).toNat (by omega)
     rw [show (((Go.bits .and .u32 e1 15).toNat : Nat) : Int) = Go.bits .and .u32 e1 15 from by omega] at hq1
     rw [show (((Go.bits .and .u32 e2 15).toNat : Nat) : Int) = Go.bits .and .u32 e2 15 from by omega] at hq2
     have HN : Aside0 (e2 = crcNib e1 ∧ Go.bits .xor .u32 (e2 / 16) (rd quarterVals (Go.bits .and .u32 e2 15)) = crcByte cu y) := ⟨by rw [He2.out]; rfl, by rw [He2.out, He1.out]; rfl⟩
     have q1 : (0 ≤ Go.bits .and .u32 e1 15 ∧ Go.bits .and .u32 e1 15 < 16) = True := eq_true hb1
     have q2 : (0 ≤ Go.bits .and .u32 e2 15 ∧ Go.bits .and .u32 e2 15 < 16) = True := eq_true hb2
     clear hb1 hb2
     rw [He2.out] at q2 hq2
     rw [He1.out] at q2 hq2 q1 hq1
     go_wp2
     go_round
     case rel =>
      refine ⟨_, j + 1, ⟨?_⟩, by omega, by go_num, rfl⟩
      rw [take_snoc_L x j 0 hlt1, crcBytes_snoc, ← HE1.out, show x.getD j 0 = y from Hy.out.symm]
      rfl
     case measure => simp [intOf]; omega
    ·go_wp2
     go_round
     case rel =>
      refine ⟨_, k + 1, ⟨?_⟩, by omega, by go_num, rfl⟩
      obtain rfl : j = x.length := by omega
      have e := HE1.out
      rw [List.take_of_length_le (Nat.le_refl _)] at e
      rw [take_snoc_L l0 k [] hlt, crcParts_snoc, ← HE.out, show l0.getD k [] = x from Hx.out.symm, e]
     case measure => simp [intOf]; omega
  ·go_wp2
   go_ret
   refine ⟨?_, Drawn0.refl _⟩
   have e := HE.out
   rw [List.take_of_length_le (by omega)] at e
   rw [e]
   rfl
theorem globBelow {w w' : World} (h : QuarterLaid w) (hb : Below w.heap.size w w') : QuarterLaid w' := fun i hi => pw_cell_below hb (h i hi)
theorem globDrewN {w : World} (h : QuarterLaid w) (n : Nat) : QuarterLaid (w.drewN n) := h
theorem globDrew {w : World} (h : QuarterLaid w) : QuarterLaid w.drew := h
theorem C_rows {W : World} {b : Nat} {vs : List Value} {t : TypeId} {fr : Nat × Nat} (hb : W.heap[b]? = some (.cells vs.toArray t fr)) (xs : List (List Int)) (hl : xs.length = vs.length) (hm : xs.length ≤ 9223372036854775807)
  (hK : ∀ (j : Nat) (x : List Int) (v : Value), xs[j]? = some x → vs[j]? = some v → ∃ A c, v = Value.slice A x.length c ∧ x.length ≤ c ∧ (Kd.int .u8).C W A x.length x) : Kd.C (Kd.slice 5 (Kd.int .u8)) W (some ⟨b, 0, none⟩) xs.length xs := by
 refine ⟨rfl, hm, fun _ => ⟨_, rfl, fun j x hx => ?_⟩⟩
 have hj : j < vs.length := by
  rw [← hl]
  exact (List.getElem?_eq_some_iff.1 hx).1
 obtain ⟨A, c, he, hc, hr⟩ := hK j x vs[j] hx (List.getElem?_eq_getElem hj)
 refine ⟨[vs[j]], rfl, ⟨A, c, by rw [he], hc, hr⟩, fun i u hu => ?_⟩
 have h0 : i = 0 := by
  have := (List.getElem?_eq_some_iff.1 hu).1
  simp at this
  omega
 subst h0
 have hu' : vs[j] = u := by simpa using hu
 subst hu'
 have := World.news_of_block hb j vs[j] (by simp)
 simpa [Kd.slice] using this
def slices_Clone.f (l0 : List Int) : Option (List Int) := if l0.length < 140737488355328 then some l0 else none
set_option maxRecDepth 100000 in
set_option maxHeartbeats 1000000 in
theorem slices_Clone.calls (A0 : Option Addr) (c0 : Nat) (l0 : List Int) (r : List Int) (w : World) (hr0 : Kd.C (Kd.int .u8) w A0 l0.length l0) (hc0 : l0.length ≤ c0) (h : slices_Clone.f l0 = some r) :
  Calls Tryd.prog 63 #[.slice A0 l0.length c0] w fun e w' => ∃ v0_ : Value, e = .returned (v0_) ∧ Kd.R (Kd.int .u8) 5 w' w.heap.size (fun _ => True) v0_ r ∧ Below w.heap.size w w' := by
 unfold slices_Clone.f at h
 by_cases hl : l0.length < 140737488355328
 ·rw [if_pos hl] at h
  obtain rfl := Option.some.inj h
  clear h
  have HR0 := Aside0.mk hr0
  have HLL := Aside0.mk hl
  clear hr0 hl
  have hk := fun W a n c => Lib.run_eql_slice_nil (P := Tryd.prog) W 31 5 a n c 0 0 Tryd.underlying31
  cases A0 with
  | none =>
   have e0 : l0 = [] := by
    rcases Nat.eq_zero_or_pos l0.length with h0 | h0
    ·exact List.eq_nil_of_length_eq_zero h0
    ·obtain ⟨ad, h1, _⟩ := HR0.out.2.2 h0
     cases h1
   subst e0
   go_enter Tryd.func63, Tryd.ntmps63
   go_wp2
   go_ret
   exact ⟨_, rfl, Kd.R_nil _ _ _ _ _, Below.refl _ _⟩
  | some ad =>
   have HB := Aside0.mk (Below.refl w.heap.size w)
   go_enter Tryd.func63, Tryd.ntmps63
   go_wp2_with (first | ((with_reducible refine gate_dst (N := 5) rfl ?_); refine Kd.R_lit (Kd.int .u8) _ 5 ?hg (N := 5) ?hd (xs := ([] : List Int)) (inner := []) (ok := fun _ => True) (okp := fun _ => True) ?hr ?hp (fun _ hk => hk) trivial (Below.refl _ _) (Nat.le_refl _) (by simp) ?_; (case hd => rfl); (case hg => rfl); (case hr => first | (go_simp; done) | (go_simp; rfl)); (case hp => exact (Reps.none _ _)); intro v102 w3 ho4 hb hg_ hnew_; clear hg_ hnew_; have HO := Aside0.mk ho4; have HB2 := Aside0.mk hb; clear ho4 hb) | ((with_reducible refine gate_builtin (b := .append) (xs := #[.tmp 5, .tmp 6]) rfl ?_); at_builtin; refine Kd.R_append_rows (Kd.int .u8) (w0 := w) w.heap.size rfl (.tmp 5) (.tmp 6) 31 5 (.int .u8 0) 1 rfl Tryd.underlying31 infoU8 rfl (by decide) (by omega) v102 ([] : List Int) l0 _ _ _ (fun _ => True) (fun _ => False) rfl rfl ?aO ?aR (fun _ _ h => h) (fun _ h => h.elim) ?aF ?aB ?aS ?aL ?_; (case aR => exact (Kd.C_below HR0.out HB2.out)); (case aB => exact HB2.out); (case aF => exact (fun _ _ => trivial)); (case aO => exact HO.out); (case aS => exact HB2.out.size); (case aL => have := HLL.out; simp; omega); intro v105 w5 ho hb hg hat; have HO5 := Aside0.mk ho; have HB5 := Aside0.mk hb; clear ho hb hg hat))
   go_ret
   exact ⟨_, rfl, by simpa using HO5.out, HB5.out⟩
 ·rw [if_neg hl] at h
  cases h
set_option maxRecDepth 100000 in
set_option maxHeartbeats 1000000 in
theorem grow_nil (n : Nat) (w : World) (hn : n ≤ 140737488355328) :
  Calls Tryd.prog 60 #[.slice none 0 0, .int .i64 n] w fun e w' => ∃ v0_ : Value, e = .returned (v0_) ∧ Kd.R (Kd.int .u8) 5 w' w.heap.size (fun _ => True) v0_ [] ∧ Below w.heap.size w w' := by
 have hcap : ∀ (W : World) (W2 : World) (v : Value), Kd.R (Kd.int .u8) 5 W w.heap.size (fun _ => True) v (List.replicate n 0) → ∃ v2, (Instr.slice 31 v none (some (.int .i64 0)) none).run Tryd.prog W2 = .ok v2 W2 ∧ Kd.R (Kd.int .u8) 5 W w.heap.size (fun _ => True) v2 [] := by
  intro W W2 v hv
  obtain ⟨A, c, rfl, hl, hr⟩ := Kd.R_reads hv
  refine ⟨.slice A 0 c, ?_, by simpa using Kd.R_take hv (m := 0) (Nat.zero_le _)⟩
  have hel : Tryd.prog.elem 31 = 5 := by simp [Program.elem, Tryd.underlying31]
  have hu : Tryd.prog.underlying 31 = some (.slice (Tryd.prog.elem 31)) := by rw [hel]; exact Tryd.underlying31
  obtain ⟨i0, hi, hz0, hz1, hz2⟩ := info_parts infoU8
  rw [run_slice_h (P := Tryd.prog) W2 31 A (List.replicate n (0:Int)).length c hu .i64 0 (by omega) (by omega), hel]
  simp [sizeOf, typeInfo, hi, hz1, sliced, Result.andThen]
  intro _
  cases A <;> simp [Addr.add]
 by_cases h0 : 0 < n
 ·have HB := Aside0.mk (Below.refl w.heap.size w)
  have Hcap := Aside0.mk hcap
  clear hcap
  go_enter Tryd.func60, Tryd.ntmps60
  go_wp2_with (first | ((with_reducible refine gate_builtin (b := .append) (xs := #[.tmp 20, .tmp 21]) rfl ?_); at_builtin; refine Kd.R_append_zeros (Kd.int .u8) (w0 := w) w.heap.size rfl (.tmp 20) (.tmp 21) 31 3 5 (.int .u8 0) 1 rfl Tryd.underlying31 Tryd.underlying3 infoU8 rfl (by decide) (by omega) (.slice none 0 0) ([] : List Int) (0 : Int) (n : Int) (fun _ => True) rfl rfl rfl (fun _ _ => trivial) (Kd.R_nil _ _ _ _ _) (by omega) (Below.refl _ _) (Nat.le_refl _) (by simp; omega) ?_; intro v105 w5 ho hb hg hat; rw [Int.toNat_natCast, List.nil_append] at ho; obtain ⟨v2, hr2, ho2⟩ := Hcap.out w5 w5 v105 ho; have HO5 := Aside0.mk ho2; have HB5 := Aside0.mk hb; clear ho hb hg hat ho2 Hcap))
  go_ret
  exact ⟨_, rfl, HO5.out, HB5.out⟩
 ·obtain rfl : n = 0 := by omega
  go_enter Tryd.func60, Tryd.ntmps60
  go_wp2
  go_ret
  exact ⟨_, rfl, Kd.R_nil _ _ _ _ _, Below.refl _ _⟩
def totalLen (l : List (List Int)) : Nat := (l.map List.length).sum
theorem totalLen_take (l : List (List Int)) (k : Nat) (h : k < l.length) : totalLen (l.take (k + 1)) = totalLen (l.take k) + (l.getD k []).length := by
 rw [take_snoc_L l k [] h]; simp [totalLen]
theorem totalLen_take_le (l : List (List Int)) (k : Nat) : totalLen (l.take k) ≤ totalLen l := by
 have h : totalLen (l.take k ++ l.drop k) = totalLen (l.take k) + totalLen (l.drop k) := by simp only [totalLen, List.map_append, List.sum_append]
 rw [List.take_append_drop] at h
 omega
theorem flatten_len (l : List (List Int)) : l.flatten.length = totalLen l := by simp [totalLen, List.length_flatten]
def slices_Concat.f (l0 : List (List Int)) : Option (List Int) := if l0.flatten.length < 140737488355328 then some l0.flatten else none
set_option maxRecDepth 100000 in
set_option maxHeartbeats 1000000 in
theorem slices_Concat.calls (A0 : Option Addr) (c0 : Nat) (l0 : List (List Int)) (r : List Int) (w : World) (hr0 : Kd.C (Kd.slice 5 (Kd.int .u8)) w A0 l0.length l0) (hc0 : l0.length ≤ c0) (h : slices_Concat.f l0 = some r) :
  Calls Tryd.prog 49 #[.slice A0 l0.length c0] w fun e w' => ∃ v0_ : Value, e = .returned (v0_) ∧ Kd.R (Kd.int .u8) 5 w' w.heap.size (fun _ => True) v0_ r ∧ Below w.heap.size w w' := by
 unfold slices_Concat.f at h
 by_cases hl : l0.flatten.length < 140737488355328
 ·rw [if_pos hl] at h
  obtain rfl := Option.some.inj h
  clear h
  rw [flatten_len] at hl
  have HR0 := Aside0.mk hr0
  have HLL := Aside0.mk hl
  have HL0 := Kd.C_max hr0
  clear hr0 hl
  go_enter Tryd.func49, Tryd.ntmps49
  go_wp2_with fail
  go_loop [3, 11] (fun s i => ∃ (sv k : Nat), Aside0 (sv = totalLen (l0.take k)) ∧ k ≤ l0.length ∧ sv < 140737488355328 ∧ i = .int .i64 k ∧ s = .int .i64 sv) (fun _ i => l0.length - (intOf i).toNat)
  case atStart => exact ⟨0, 0, ⟨rfl⟩, Nat.zero_le _, by omega, rfl, rfl⟩
  case round =>
   obtain ⟨sv, k, HE, hk, hs, rfl, rfl⟩ := hrel
   by_cases hlt : k < l0.length
   ·obtain ⟨ad, A1, c1, rfl, hx, hc1, hr1⟩ := xat HR0.out (k : Int) (by omega) (by omega)
    rw [Int.toNat_natCast] at hx
    have ht : sv + (xrd l0 (k : Int)).length < 140737488355328 := by
     have h1 := totalLen_take l0 k hlt
     have h2 := totalLen_take_le l0 (k + 1)
     have h3 := HLL.out
     have h4 := HE.out
     have h5 : (xrd l0 (k : Int)).length = (l0.getD k []).length := rfl
     omega
    obtain ⟨x, Hx⟩ : ∃ x, Aside0 (x = xrd l0 (k : Int)) := ⟨_, ⟨rfl⟩⟩
    rw [← Hx.out] at hx hc1 hr1 ht
    clear hr1
    go_wp2_with fail
    go_round
    case rel =>
     refine ⟨sv + x.length, k + 1, ⟨?_⟩, by omega, by omega, by go_num, by go_num⟩
     rw [totalLen_take l0 k hlt, ← HE.out, Hx.out]
     rfl
    case measure => simp [intOf]; omega
   ·obtain rfl : k = l0.length := by omega
    have HT : Aside0 (sv = totalLen l0) := ⟨by have := HE.out; rwa [List.take_of_length_le (Nat.le_refl _)] at this⟩
    clear HE
    go_wp2_with (go_at_call 60; refine (grow_nil sv _ (by omega)).mono ?_; rintro e w1 ⟨v1, rfl, ho1, hb1⟩; have HO1 := Aside0.mk ho1; have HB1 := Aside0.mk hb1; clear ho1 hb1)
    go_loopw [6, 27] (fun v i wr => ∃ (k : Nat) (xs : List Int), Aside0 (xs = (l0.take k).flatten) ∧ k ≤ l0.length ∧ i = .int .i64 k ∧ Aside0 (Kd.R (Kd.int .u8) 5 wr w.heap.size (fun _ => True) v xs) ∧ Aside0 (Below w.heap.size w wr)) (fun _ i _ => l0.length - (intOf i).toNat)
    case atStart => exact ⟨0, [], ⟨rfl⟩, Nat.zero_le _, rfl, HO1, HB1⟩
    case round =>
     obtain ⟨k, xs, HE, hk, rfl, HO, HB⟩ := hrel
     by_cases hlt : k < l0.length
     ·obtain ⟨ad, A2, c2, rfl, hx, hc2, hr2⟩ := xat (Kd.C_below HR0.out HB.out) (k : Int) (by omega) (by omega)
      rw [Int.toNat_natCast] at hx
      obtain ⟨x, Hx⟩ : ∃ x, Aside0 (x = xrd l0 (k : Int)) := ⟨_, ⟨rfl⟩⟩
      rw [← Hx.out] at hx hc2 hr2
      have HR2 := Aside0.mk hr2
      clear hr2
      have HS : Aside0 (xs.length + x.length ≤ 140737488355328) := by
       have h1 := totalLen_take l0 k hlt
       have h2 := totalLen_take_le l0 (k + 1)
       have h3 := HLL.out
       have h5 : x.length = (l0.getD k []).length := by rw [Hx.out]; rfl
       have h6 : xs.length = totalLen (l0.take k) := by rw [HE.out, flatten_len]
       exact ⟨by omega⟩
      go_wp2_with (first | ((with_reducible refine gate_builtin (b := .append) (xs := #[.tmp 31, .tmp 32]) rfl ?_); at_builtin; refine Kd.R_append_rows (Kd.int .u8) (w0 := w) w.heap.size rfl (.tmp 31) (.tmp 32) 31 5 (.int .u8 0) 1 rfl Tryd.underlying31 infoU8 rfl (by decide) (by omega) _ xs x _ _ _ (fun _ => True) (fun _ => False) rfl rfl HO.out HR2.out (fun _ _ h => h) (fun _ h => h.elim) (fun _ _ => trivial) HB.out HB.out.size (by have := HS.out; omega) ?_; intro v105 w5 ho hb hg hat; have HO5 := Aside0.mk ho; have HB5 := Aside0.mk hb; clear ho hb hg hat))
      go_roundw
      case rel =>
       refine ⟨k + 1, xs ++ x, ⟨?_⟩, by omega, by go_num, HO5, HB5⟩
       rw [take_snoc_L l0 k [] hlt, HE.out, List.flatten_append, Hx.out]
       simp [xrd]
      case measure => simp [intOf]; omega
     ·have HT2 : Aside0 (xs = l0.flatten) := ⟨by have := HE.out; rwa [List.take_of_length_le (by omega)] at this⟩
      clear HE
      go_wp2_with fail
      go_ret
      exact ⟨_, rfl, by rw [← HT2.out]; exact HO.out, HB.out⟩
 ·rw [if_neg hl] at h
  cases h
end Go.Proofs.YtlkaffbgekbcfaaDoor.Pr
end
section
namespace Go.Proofs.YtlkaffbgekbcfaaDoor.Pr
open Go.RowKit Go.Proofs.YtlkaffbgekbcfaaDoorW.PrintWords Go.Proofs.YtlkaffbgekbcfaaDoorW.PrintLast Go.Proofs.YtlkaffbgekbcfaaDoorW.PrintMore
attribute [local go_sem] max2_int min2_int max_two min_two max_three min_three max_four min_four
def frame_four.f (a0 : Int) : Option (List Int) := some (([(a0 / 16777216) % 256, (a0 / 65536) % 256, (a0 / 256) % 256, (a0) % 256] : List Int))
set_option maxHeartbeats 8000000 in
set_option maxRecDepth 100000 in
theorem frame_four.calls (a0 : Int) (r : List Int) (w : World) (h : frame_four.f a0 = some r) :
  Calls Tryd.prog 48 #[.int .u32 a0] w fun e w' => ∃ v0_ : Value, e = .returned (v0_) ∧ Kd.R (Kd.int .u8) 5 w' w.heap.size (fun _ => True) v0_ r ∧ Below w.heap.size w w' := by
 have HB := Aside0.mk (Below.refl w.heap.size w)
 have H : (some (([(a0 / 16777216) % 256, (a0 / 65536) % 256, (a0 / 256) % 256, (a0) % 256] : List Int))) = some r := h
 clear h
 obtain ⟨y131, hy131⟩ : ∃ y_ : List Int, y_ = (([(a0 / 16777216) % 256, (a0 / 65536) % 256, (a0 / 256) % 256, (a0) % 256] : List Int)) := ⟨_, rfl⟩
 replace H : (some y131) = some r := by first | (rw [hy131]; with_reducible exact H) | (have H2_ := (Option.bind_some _ _).symm.trans H; rw [hy131]; with_reducible exact H2_) | (have H2_ := (Option.bind_some _ _).symm.trans H; with_reducible exact H2_) | with_reducible exact H | (rw [hy131]; exact H) | exact H
 have Ny131 := Aside0.mk hy131
 clear hy131
 obtain rfl := Option.some.inj H
 go_enter Tryd.func48, Tryd.ntmps48
 go_wp2_with (first | ((with_reducible refine gate_dst (N := 14) rfl ?_); refine Kd.R_lit (Kd.int .u8) _ 5 ?hg (N := 14) ?hd (xs := ([(a0 / 16777216) % 256, (a0 / 65536) % 256, (a0 / 256) % 256, (a0) % 256] : List Int)) (inner := [.int .u8 ((a0 / 16777216) % 256), .int .u8 ((a0 / 65536) % 256), .int .u8 ((a0 / 256) % 256), .int .u8 ((a0) % 256)]) (ok := fun _ => True) (okp := fun _ => True) ?hr ?hp (fun _ hk => hk) trivial (Below.refl _ _) (Nat.le_refl _) (by simp) ?_; (case hd => rfl); (case hg => rfl); (case hr => first | (go_simp; done) | (go_simp; rfl)); (case hp => exact (Reps.one (show Kd.M (Kd.int .u8) _ _ _ ((a0 / 16777216) % 256) [.int .u8 ((a0 / 16777216) % 256)] from rfl) (Reps.one (show Kd.M (Kd.int .u8) _ _ _ ((a0 / 65536) % 256) [.int .u8 ((a0 / 65536) % 256)] from rfl) (Reps.one (show Kd.M (Kd.int .u8) _ _ _ ((a0 / 256) % 256) [.int .u8 ((a0 / 256) % 256)] from rfl) (Reps.one (show Kd.M (Kd.int .u8) _ _ _ ((a0) % 256) [.int .u8 ((a0) % 256)] from rfl) (Reps.none _ _)))))); intro v132 w2 ho3 hb hg_ hnew_; clear hg_ hnew_; (first | rw [← Ny131.out] at ho3 | (simp only [Int.reduceToNat] at ho3; rw [← Ny131.out] at ho3)); have n0_ := Aside0.mk (Kd.R_lower ho3 (below_size (by repeat (first | (with_reducible first | exact HB.out | apply below_alloc | apply pw_below_drewN | apply below_drew1) | exact HB.out)))); have n1_ := Aside0.mk (below_step (by repeat (first | (with_reducible first | exact HB.out | apply below_alloc | apply pw_below_drewN | apply below_drew1) | exact HB.out)) hb); clear HB; have HO133 := n0_; have HB := n1_; clear n0_ n1_; clear hb ho3))
 go_ret
 exact ⟨_, by first | rfl | (simp [errW_none, errW_some] <;> rfl) | (simp [*, errW_none, errW_some] <;> rfl), by (with_reducible repeat (first | apply Kd.R_alloc | apply Kd.R_drewN | apply Kd.R_drew)); exact HO133.out, by repeat (first | (with_reducible first | exact HB.out | apply below_alloc | apply pw_below_drewN | apply below_drew1) | exact HB.out)⟩
def frame_number.f (l0 : List Int) : Option (Int) := if 0 < (l0.length : Int) then (if 1 < (l0.length : Int) then (if 2 < (l0.length : Int) then (if 3 < (l0.length : Int) then (some (Go.bits .or .u32 (Go.bits .or .u32 (Go.bits .or .u32 ((((rd l0 0) % 4294967296) * 16777216) % 4294967296) ((((rd l0 1) % 4294967296) * 65536) % 4294967296)) ((((rd l0 2) % 4294967296) * 256) % 4294967296)) ((rd l0 3) % 4294967296))) else (none)) else (none)) else (none)) else (none)
set_option maxHeartbeats 8000000 in
set_option maxRecDepth 100000 in
theorem frame_number.calls (A0 : Option Addr) (c0 : Nat) (l0 : List Int) (r : Int) (w : World) (hr0 : Kd.C (Kd.int .u8) w A0 l0.length l0) (hc0 : l0.length ≤ c0) (h : frame_number.f l0 = some r) :
  Calls Tryd.prog 62 #[.slice A0 l0.length c0] w fun e w' => e = .returned (.int .u32 r) ∧ Drawn0 w w' := by
 have HR0 := Aside0.mk hr0
 have HC0 := Aside0.mk hc0
 clear hr0 hc0
 have H : (if 0 < (l0.length : Int) then (if 1 < (l0.length : Int) then (if 2 < (l0.length : Int) then (if 3 < (l0.length : Int) then (some (Go.bits .or .u32 (Go.bits .or .u32 (Go.bits .or .u32 ((((rd l0 0) % 4294967296) * 16777216) % 4294967296) ((((rd l0 1) % 4294967296) * 65536) % 4294967296)) ((((rd l0 2) % 4294967296) * 256) % 4294967296)) ((rd l0 3) % 4294967296))) else (none)) else (none)) else (none)) else (none)) = some r := h
 clear h
 by_cases c2 : 0 < (l0.length : Int)
 ·rw [if_pos c2] at H
  have c2b0 : decide (0 < (l0.length : Int)) = true := decide_eq_true c2
  have c2b1 : decide (0 < l0.length) = true := decide_eq_true (by omega)
  clear c2
  by_cases c3 : 1 < (l0.length : Int)
  ·rw [if_pos c3] at H
   have c3b0 : decide (1 < (l0.length : Int)) = true := decide_eq_true c3
   have c3b1 : decide (1 < l0.length) = true := decide_eq_true (by omega)
   clear c3
   by_cases c4 : 2 < (l0.length : Int)
   ·rw [if_pos c4] at H
    have c4b0 : decide (2 < (l0.length : Int)) = true := decide_eq_true c4
    have c4b1 : decide (2 < l0.length) = true := decide_eq_true (by omega)
    clear c4
    by_cases c5 : 3 < (l0.length : Int)
    ·rw [if_pos c5] at H
     have c5b0 : decide (3 < (l0.length : Int)) = true := decide_eq_true c5
     have c5b1 : decide (3 < l0.length) = true := decide_eq_true (by omega)
     clear c5
     obtain rfl := Option.some.inj H
     have p113 : 0 ≤ (0 : Int) := (by omega)
     have q113 : 0 < (l0.length : Int) := of_decide_eq_true (by first | (with_reducible assumption) | assumption)
     obtain ⟨ad113, e113, hx113_0⟩ := Kd.at_int HR0.out 0 p113 q113
     cases e113
     have qi113 : (0 < l0.length) = True := eq_true (by omega)
     (try rw [show ((0 : Int)).toNat = 0 from rfl] at hx113_0)
     (try rw [Addr.add_zero'] at hx113_0)
     replace p113 := eq_true p113
     replace q113 := eq_true q113
     have p114 : 0 ≤ (1 : Int) := (by omega)
     have q114 : 1 < (l0.length : Int) := of_decide_eq_true (by first | (with_reducible assumption) | assumption)
     obtain ⟨ad114, e114, hx114_0⟩ := Kd.at_int HR0.out 1 p114 q114
     obtain rfl : ad113 = ad114 := (by injection e114)
     (try simp only [show (1 : Int).toNat = 1 from rfl, Nat.reduceMul, Nat.reduceEqDiff, Go.Addr.add, ↓reduceIte] at hx114_0)
     have qi114 : (1 < l0.length) = True := eq_true (by omega)
     (try rw [show ((1 : Int)).toNat = 1 from rfl] at hx114_0)
     replace p114 := eq_true p114
     replace q114 := eq_true q114
     have p115 : 0 ≤ (2 : Int) := (by omega)
     have q115 : 2 < (l0.length : Int) := of_decide_eq_true (by first | (with_reducible assumption) | assumption)
     obtain ⟨ad115, e115, hx115_0⟩ := Kd.at_int HR0.out 2 p115 q115
     obtain rfl : ad113 = ad115 := (by injection e115)
     (try simp only [show (2 : Int).toNat = 2 from rfl, Nat.reduceMul, Nat.reduceEqDiff, Go.Addr.add, ↓reduceIte] at hx115_0)
     have qi115 : (2 < l0.length) = True := eq_true (by omega)
     (try rw [show ((2 : Int)).toNat = 2 from rfl] at hx115_0)
     replace p115 := eq_true p115
     replace q115 := eq_true q115
     have p116 : 0 ≤ (3 : Int) := (by omega)
     have q116 : 3 < (l0.length : Int) := of_decide_eq_true (by first | (with_reducible assumption) | assumption)
     obtain ⟨ad116, e116, hx116_0⟩ := Kd.at_int HR0.out 3 p116 q116
     obtain rfl : ad113 = ad116 := (by injection e116)
     (try simp only [show (3 : Int).toNat = 3 from rfl, Nat.reduceMul, Nat.reduceEqDiff, Go.Addr.add, ↓reduceIte] at hx116_0)
     have qi116 : (3 < l0.length) = True := eq_true (by omega)
     (try rw [show ((3 : Int)).toNat = 3 from rfl] at hx116_0)
     replace p116 := eq_true p116
     replace q116 := eq_true q116
     go_enter Tryd.func62, Tryd.ntmps62
     go_wp2
     repeat (go_quiet (fail); try go_wp2)
     go_ret
     exact ⟨by first | rfl | (simp; done) | (simp [*]; done), by repeat (first | exact Drawn0.refl _ | apply Drawn0.step)⟩
    ·rw [if_neg c5] at H
     exact absurd H (by simp)
   ·rw [if_neg c4] at H
    exact absurd H (by simp)
  ·rw [if_neg c3] at H
   exact absurd H (by simp)
 ·rw [if_neg c2] at H
  exact absurd H (by simp)
def fourL (a : Int) : List Int := [(a / 16777216) % 256, (a / 65536) % 256, (a / 256) % 256, a % 256]
def frame_Frame.f (l0 : List Int) : Option (List Int × Int) :=
 if (l0.length : Int) > 1048576 then some ([], 2)
 else (frame_sum.f [fourL (l0.length : Int), l0]).bind fun s => some (fourL (l0.length : Int) ++ (fourL s ++ l0), 0)
set_option maxRecDepth 100000 in
set_option maxHeartbeats 2000000 in
theorem frame_Frame.calls (A0 : Option Addr) (c0 : Nat) (l0 : List Int) (r1 : List Int) (r2 : Int) (w : World) (hr0 : Kd.C (Kd.int .u8) w A0 l0.length l0) (hc0 : l0.length ≤ c0) (hG : QuarterLaid w) (h : frame_Frame.f l0 = some (r1, r2)) :
  Calls Tryd.prog 30 #[.slice A0 l0.length c0] w fun e w' => ∃ v0_ : Value, e = .returned (.tuple #[v0_, .int .i64 r2]) ∧ Kd.R (Kd.int .u8) 5 w' w.heap.size (fun _ => True) v0_ r1 ∧ Below w.heap.size w w' := by
 unfold frame_Frame.f at h
 by_cases hl : (l0.length : Int) > 1048576
 ·rw [if_pos hl] at h
  obtain ⟨rfl, rfl⟩ := Prod.mk.inj (Option.some.inj h)
  clear h
  go_enter Tryd.func30, Tryd.ntmps30
  go_wp2_with fail
  go_ret2
  exact ⟨_, rfl, Kd.R_nil _ _ _ _ _, Below.refl _ _⟩
 ·rw [if_neg hl] at h
  have hlen : l0.length ≤ 1048576 := by omega
  obtain ⟨s, hs, h2⟩ := Option.bind_eq_some_iff.1 h
  obtain ⟨rfl, rfl⟩ := Prod.mk.inj (Option.some.inj h2)
  clear h h2 hl
  have HR0 := Aside0.mk hr0
  have HG := Aside0.mk hG
  have HS := Aside0.mk hs
  clear hr0 hG hs
  go_enter Tryd.func30, Tryd.ntmps30
  go_wp2_with fail
  refine (frame_four.calls (l0.length : Int) (fourL (l0.length : Int)) w rfl).mono ?_
  rintro e w1 ⟨v1, rfl, ho1, hb1⟩
  obtain ⟨A1, c1, rfl, hc1, hr1⟩ := Kd.R_reads ho1
  have hG1 := globBelow HG.out hb1
  have hr01 := Kd.C_below HR0.out hb1
  clear ho1
  obtain ⟨n, Hn⟩ : ∃ n, Aside0 (n = fourL (l0.length : Int)) := ⟨_, ⟨rfl⟩⟩
  have hn4 : n.length = 4 := by rw [Hn.out]; rfl
  rw [← Hn.out] at hr1 hc1 ⊢
  rw [← Hn.out] at HS
  have hb2 : Below w1.heap.size w1 (w1.alloc (.cells #[.slice A1 n.length c1, .slice A0 l0.length c0] 31)) := (Below.refl _ _).alloc (Nat.le_refl _) _
  have hcall := frame_sum.calls (some ⟨w1.heap.size, 0, none⟩) 2 [n, l0] s (w1.alloc (.cells #[.slice A1 n.length c1, .slice A0 l0.length c0] 31))
   (C_rows (vs := [.slice A1 n.length c1, .slice A0 l0.length c0]) (heap_alloc_new w1 _) [n, l0] rfl (by simp) (fun j x v hx hv => by
    match j, hx, hv with
    | 0, hx, hv =>
     obtain rfl : n = x := by simpa using hx
     obtain rfl : Value.slice A1 n.length c1 = v := by simpa using hv
     exact ⟨A1, c1, rfl, hc1, Kd.C_below hr1 hb2⟩
    | 1, hx, hv =>
     obtain rfl : l0 = x := by simpa using hx
     obtain rfl : Value.slice A0 l0.length c0 = v := by simpa using hv
     exact ⟨A0, c0, rfl, hc0, Kd.C_below hr01 hb2⟩
    | j + 2, hx, hv => simp at hx)) (by simp) (globBelow hG1 hb2) HS.out
  have HC := Aside0.mk hcall
  have HB1 := Aside0.mk hb1
  have HB2 := Aside0.mk hb2
  have HR1 := Aside0.mk hr1
  have HR01 := Aside0.mk hr01
  have HN4 := Aside0.mk hn4
  clear hcall hb1 hb2 hr1 hr01 hG1 hn4
  go_wp2_with fail
  refine HC.out.mono ?_
  rintro e w2 ⟨rfl, nd, rfl⟩
  go_wp2_with fail
  refine (frame_four.calls s (fourL s) _ rfl).mono ?_
  rintro e w3 ⟨v3, rfl, ho3, hb3⟩
  obtain ⟨A3, c3, rfl, hc3, hr3⟩ := Kd.R_reads ho3
  clear ho3 HC
  obtain ⟨m, Hm⟩ : ∃ m, Aside0 (m = fourL s) := ⟨_, ⟨rfl⟩⟩
  have hm4 : m.length = 4 := by rw [Hm.out]; rfl
  rw [← Hm.out] at hr3 hc3 ⊢
  have hb13 : Below w1.heap.size w1 w3 := below_then (pw_below_drewN HB2.out nd) (by simp [World.drewN]; try omega) hb3
  have hb4 : Below w3.heap.size w3 (w3.alloc (.cells #[.slice A1 n.length c1, .slice A3 m.length c3, .slice A0 l0.length c0] 31)) := (Below.refl _ _).alloc (Nat.le_refl _) _
  have hcall := slices_Concat.calls (some ⟨w3.heap.size, 0, none⟩) 3 [n, m, l0] (n ++ (m ++ l0)) (w3.alloc (.cells #[.slice A1 n.length c1, .slice A3 m.length c3, .slice A0 l0.length c0] 31))
   (C_rows (vs := [.slice A1 n.length c1, .slice A3 m.length c3, .slice A0 l0.length c0]) (heap_alloc_new w3 _) [n, m, l0] rfl (by simp) (fun j x v hx hv => by
    match j, hx, hv with
    | 0, hx, hv =>
     obtain rfl : n = x := by simpa using hx
     obtain rfl : Value.slice A1 n.length c1 = v := by simpa using hv
     exact ⟨A1, c1, rfl, hc1, Kd.C_below (Kd.C_below HR1.out hb13) hb4⟩
    | 1, hx, hv =>
     obtain rfl : m = x := by simpa using hx
     obtain rfl : Value.slice A3 m.length c3 = v := by simpa using hv
     exact ⟨A3, c3, rfl, hc3, Kd.C_below hr3 hb4⟩
    | 2, hx, hv =>
     obtain rfl : l0 = x := by simpa using hx
     obtain rfl : Value.slice A0 l0.length c0 = v := by simpa using hv
     exact ⟨A0, c0, rfl, hc0, Kd.C_below (Kd.C_below HR01.out hb13) hb4⟩
    | j + 3, hx, hv => simp at hx)) (by simp) (by
     have e : [n, m, l0].flatten = n ++ (m ++ l0) := by simp
     have := HN4.out
     unfold slices_Concat.f
     rw [e, if_pos (by simp only [List.length_append]; omega)])
  have HC := Aside0.mk hcall
  have HB3 := Aside0.mk hb13
  have HB4 := Aside0.mk hb4
  clear hcall hb13 hb4 hb3 hm4 hr3
  go_wp2_with fail
  refine HC.out.mono ?_
  rintro e w5 ⟨v5, rfl, ho5, hb5⟩
  have HO5 := Aside0.mk ho5
  have hs1 := HB1.out.size
  have hs3 := HB3.out.size
  have HB5 : Aside0 (Below w.heap.size w w5) := ⟨below_then (below_then (below_then HB1.out HB1.out.size HB3.out) (by omega) HB4.out) (by simp; omega) hb5⟩
  clear ho5 hb5 HC
  go_wp2_with fail
  go_ret2
  exact ⟨_, rfl, by rw [← Hn.out, ← Hm.out]; exact Kd.R_lower HO5.out (by simp only [World.size_alloc]; omega), HB5.out⟩
end Go.Proofs.YtlkaffbgekbcfaaDoor.Pr
end
section
namespace Go.Proofs.YtlkaffbgekbcfaaDoor.Pr
open Go.RowKit Go.Proofs.YtlkaffbgekbcfaaDoorW.PrintWords Go.Proofs.YtlkaffbgekbcfaaDoorW.PrintLast Go.Proofs.YtlkaffbgekbcfaaDoorW.PrintMore
section
variable {P : Program} {α : Type} {d : Kd α} (t e : TypeId) {i : TypeInfo} (ht : P.underlying t = some (.slice e)) (hi : P.info? e = some i) (hsz : i.size = d.sz) (A : Option Addr) (c : Nat) (xs : List α) (hc : xs.length ≤ c)
include ht hi hsz hc
theorem cut_lh (lo hi' : Int) (h0 : 0 ≤ lo) (h1 : lo ≤ hi') (h2 : hi' ≤ xs.length) : ∃ (A' : Option Addr) (c' : Nat) (y : List α), Aside0 (y = (xs.take hi'.toNat).drop lo.toNat) ∧
  (∀ W : World, (Instr.slice t (.slice A xs.length c) (some (.int .i64 lo)) (some (.int .i64 hi')) none).run P W = .ok (.slice A' y.length c') W) ∧ y.length ≤ c' ∧ ∀ w, d.C w A xs.length xs → d.C w A' y.length y := by
 have hel : P.elem t = e := by simp [Program.elem, ht]
 have hu : P.underlying t = some (.slice (P.elem t)) := by rw [hel]; exact ht
 have hl : ((xs.take hi'.toNat).drop lo.toNat).length = (hi' - lo).toNat := by simp; omega
 refine ⟨if c = lo.toNat then A else A.map (·.add (lo.toNat * d.sz)), c - lo.toNat, _, ⟨rfl⟩, fun W => ?_, by rw [hl]; omega, fun w h => ?_⟩
 ·rw [run_slice_lh W t A xs.length c hu .i64 .i64 lo hi' h0 h1 (by omega), hel]
  simp only [sizeOf, typeInfo, hi, hsz, sliced, Result.andThen, hl, Sem.run_bind]
  simp [sizeOf, typeInfo, hi, hsz, sliced, Result.andThen]
  omega
 ·have h3 := Kd.C_take h (m := hi'.toNat) (by omega)
  exact Kd.C_drop (c := c) h3 (by simp; omega) (by simp; omega)
theorem cut_h (hi' : Int) (h1 : 0 ≤ hi') (h2 : hi' ≤ xs.length) : ∃ (y : List α), Aside0 (y = xs.take hi'.toNat) ∧
  (∀ W : World, (Instr.slice t (.slice A xs.length c) none (some (.int .i64 hi')) none).run P W = .ok (.slice A y.length c) W) ∧ y.length ≤ c ∧ ∀ w, d.C w A xs.length xs → d.C w A y.length y := by
 have hel : P.elem t = e := by simp [Program.elem, ht]
 have hu : P.underlying t = some (.slice (P.elem t)) := by rw [hel]; exact ht
 have hl : (xs.take hi'.toNat).length = hi'.toNat := by simp; omega
 refine ⟨_, ⟨rfl⟩, fun W => ?_, by rw [hl]; omega, fun w h => Kd.C_take h (by omega)⟩
 rw [run_slice_h W t A xs.length c hu .i64 hi' h1 (by omega), hel]
 simp [sizeOf, typeInfo, hi, hsz, sliced, Result.andThen, hl]
 cases A <;> simp [Addr.add]
theorem cut_l (lo : Int) (h0 : 0 ≤ lo) (h1 : lo ≤ xs.length) : ∃ (A' : Option Addr) (c' : Nat) (y : List α), Aside0 (y = xs.drop lo.toNat) ∧
  (∀ W : World, (Instr.slice t (.slice A xs.length c) (some (.int .i64 lo)) none none).run P W = .ok (.slice A' y.length c') W) ∧ y.length ≤ c' ∧ ∀ w, d.C w A xs.length xs → d.C w A' y.length y := by
 have hel : P.elem t = e := by simp [Program.elem, ht]
 have hu : P.underlying t = some (.slice (P.elem t)) := by rw [hel]; exact ht
 have hl : (xs.drop lo.toNat).length = xs.length - lo.toNat := by simp
 refine ⟨if c = lo.toNat then A else A.map (·.add (lo.toNat * d.sz)), c - lo.toNat, _, ⟨rfl⟩, fun W => ?_, by rw [hl]; omega, fun w h => Kd.C_drop (c := c) h (by omega) hc⟩
 rw [run_slice_l W t A xs.length c hu .i64 lo h0 h1, hel]
 simp [sizeOf, typeInfo, hi, hsz, sliced, Result.andThen]
end
end Go.Proofs.YtlkaffbgekbcfaaDoor.Pr
end
section
namespace Go.Proofs.YtlkaffbgekbcfaaDoor.Pr
open Go.RowKit Go.Proofs.YtlkaffbgekbcfaaDoorW.PrintWords Go.Proofs.YtlkaffbgekbcfaaDoorW.PrintLast Go.Proofs.YtlkaffbgekbcfaaDoorW.PrintMore
def frame_first.f (l0 : List Int) : Option (List Int × Int × Int) :=
 if (l0.length : Int) < 8 then some ([], 0, 3)
 else (frame_number.f l0).bind fun n =>
  if n > 1048576 then some ([], 0, 2)
  else if n > (l0.length : Int) - 8 then some ([], 0, 3)
  else (frame_sum.f [l0.take 4, (l0.take (8 + n).toNat).drop 8]).bind fun s => (frame_number.f (l0.drop 4)).bind fun m =>
   if s = m then some ((l0.take (8 + n).toNat).drop 8, 8 + n, 0) else some ([], 0, 4)
theorem frame_number.range {l : List Int} {n : Int} (h : frame_number.f l = some n) : 0 ≤ n ∧ n ≤ 4294967295 := by
 unfold frame_number.f at h
 repeat' split at h
 ·cases h
  exact ⟨Go.bits_lo_u32 _ _ _, Go.bits_hi_u32 _ _ _⟩
 all_goals cases h
theorem frame_first.cases {l0 : List Int} {r1 : List Int} {r2 r3 : Int} (h : frame_first.f l0 = some (r1, r2, r3)) :
  ((l0.length : Int) < 8 ∧ r1 = [] ∧ r2 = 0 ∧ r3 = 3) ∨ (8 ≤ (l0.length : Int) ∧ ∃ n, frame_number.f l0 = some n ∧ 0 ≤ n ∧
   ((1048576 < n ∧ n ≤ 4294967295 ∧ r1 = [] ∧ r2 = 0 ∧ r3 = 2) ∨ (n ≤ 1048576 ∧ ((l0.length : Int) - 8 < n ∧ r1 = [] ∧ r2 = 0 ∧ r3 = 3 ∨ n ≤ (l0.length : Int) - 8 ∧ ∃ s m, frame_sum.f [l0.take 4, (l0.take (8 + n).toNat).drop 8] = some s ∧ frame_number.f (l0.drop 4) = some m ∧
    (s = m ∧ r1 = (l0.take (8 + n).toNat).drop 8 ∧ r2 = 8 + n ∧ r3 = 0 ∨ s ≠ m ∧ r1 = [] ∧ r2 = 0 ∧ r3 = 4))))) := by
 unfold frame_first.f at h
 by_cases c1 : (l0.length : Int) < 8
 ·rw [if_pos c1] at h
  obtain ⟨rfl, rfl, rfl⟩ : [] = r1 ∧ 0 = r2 ∧ 3 = r3 := by simpa using h
  exact .inl ⟨c1, rfl, rfl, rfl⟩
 ·rw [if_neg c1] at h
  obtain ⟨n, hn, h2⟩ := Option.bind_eq_some_iff.1 h
  have hr := frame_number.range hn
  refine .inr ⟨by omega, n, hn, hr.1, ?_⟩
  by_cases c2 : n > 1048576
  ·rw [if_pos c2] at h2
   obtain ⟨rfl, rfl, rfl⟩ : [] = r1 ∧ 0 = r2 ∧ 2 = r3 := by simpa using h2
   exact .inl ⟨c2, hr.2, rfl, rfl, rfl⟩
  ·rw [if_neg c2] at h2
   refine .inr ⟨by omega, ?_⟩
   by_cases c3 : n > (l0.length : Int) - 8
   ·rw [if_pos c3] at h2
    obtain ⟨rfl, rfl, rfl⟩ : [] = r1 ∧ 0 = r2 ∧ 3 = r3 := by simpa using h2
    exact .inl ⟨c3, rfl, rfl, rfl⟩
   ·rw [if_neg c3] at h2
    obtain ⟨s, hs, h3⟩ := Option.bind_eq_some_iff.1 h2
    obtain ⟨m, hm, h4⟩ := Option.bind_eq_some_iff.1 h3
    refine .inr ⟨by omega, s, m, hs, hm, ?_⟩
    by_cases c4 : s = m
    ·rw [if_pos c4] at h4
     obtain ⟨h5, h6, h7⟩ : (l0.take (8 + n).toNat).drop 8 = r1 ∧ 8 + n = r2 ∧ 0 = r3 := by simpa using h4
     exact .inl ⟨c4, h5.symm, h6.symm, h7.symm⟩
    ·rw [if_neg c4] at h4
     obtain ⟨h5, h6, h7⟩ : [] = r1 ∧ 0 = r2 ∧ 4 = r3 := by simpa using h4
     exact .inr ⟨c4, h5.symm, h6.symm, h7.symm⟩
set_option maxRecDepth 100000 in
set_option maxHeartbeats 2000000 in
theorem frame_first.calls (A0 : Option Addr) (c0 : Nat) (l0 : List Int) (r1 : List Int) (r2 : Int) (r3 : Int) (w : World) (hr0 : Kd.C (Kd.int .u8) w A0 l0.length l0) (hc0 : l0.length ≤ c0) (hG : QuarterLaid w) (h : frame_first.f l0 = some (r1, r2, r3)) :
  Calls Tryd.prog 54 #[.slice A0 l0.length c0] w fun e w' => ∃ v0_ : Value, e = .returned (.tuple #[v0_, .int .i64 r2, .int .i64 r3]) ∧ Kd.R (Kd.int .u8) 5 w' w.heap.size (fun _ => True) v0_ r1 ∧ Below w.heap.size w w' := by
 have HR0 := Aside0.mk hr0
 have HG := Aside0.mk hG
 have hmx := Kd.C_max hr0
 have H := frame_first.cases h
 clear hr0 hG h
 rcases H with ⟨c1, rfl, rfl, rfl⟩ | ⟨c1, n, hn, hn0, H⟩
 ·go_enter Tryd.func54, Tryd.ntmps54
  go_wp2_with fail
  go_ret3
  exact ⟨_, rfl, Kd.R_nil _ _ _ _ _, Below.refl _ _⟩
 have HN := Aside0.mk hn
 clear hn
 rcases H with ⟨c2, c2', rfl, rfl, rfl⟩ | ⟨c2, ⟨c3, rfl, rfl, rfl⟩ | ⟨c3, s, m, hs, hm, H⟩⟩
 ·go_enter Tryd.func54, Tryd.ntmps54
  go_wp2_with (go_at_call 62; refine (frame_number.calls _ _ _ _ _ HR0.out hc0 HN.out).mono ?_; rintro e w1 ⟨rfl, nd, rfl⟩)
  go_ret3
  exact ⟨_, rfl, Kd.R_nil _ _ _ _ _, pw_below_drewN (Below.refl _ _) _⟩
 ·go_enter Tryd.func54, Tryd.ntmps54
  go_wp2_with (go_at_call 62; refine (frame_number.calls _ _ _ _ _ HR0.out hc0 HN.out).mono ?_; rintro e w1 ⟨rfl, nd, rfl⟩)
  go_ret3
  exact ⟨_, rfl, Kd.R_nil _ _ _ _ _, pw_below_drewN (Below.refl _ _) _⟩
 ·obtain ⟨i0, hi, hz0, hz1, hz2⟩ := info_parts infoU8
  obtain ⟨y1, Hy1, hrun1, hcy1, hC1⟩ := cut_h (P := Tryd.prog) (d := Kd.int .u8) 31 5 Tryd.underlying31 hi hz1 A0 c0 l0 hc0 4 (by omega) (by omega)
  obtain ⟨A2, c2_, y2, Hy2, hrun2, hcy2, hC2⟩ := cut_lh (P := Tryd.prog) (d := Kd.int .u8) 31 5 Tryd.underlying31 hi hz1 A0 c0 l0 hc0 8 (8 + n) (by omega) (by omega) (by omega)
  obtain ⟨A3, c3_, y3, Hy3, hrun3, hcy3, hC3⟩ := cut_l (P := Tryd.prog) (d := Kd.int .u8) 31 5 Tryd.underlying31 hi hz1 A0 c0 l0 hc0 4 (by omega) (by omega)
  have e1 : l0.take 4 = y1 := Hy1.out.symm
  have e2 : (l0.take (8 + n).toNat).drop 8 = y2 := Hy2.out.symm
  have e3 : l0.drop 4 = y3 := Hy3.out.symm
  rw [e1, e2] at hs
  rw [e3] at hm
  rw [e2] at H
  have HS := Aside0.mk hs
  have HM := Aside0.mk hm
  have HH := Aside0.mk H
  have HCC := Aside0.mk (And.intro hC1 (And.intro hC2 hC3))
  have HRR := Aside0.mk (And.intro hrun1 (And.intro hrun2 hrun3))
  clear hs hm H hC1 hC2 hC3 e1 e2 e3 hi hz0 hz1 hz2
  have hw : wrap64 (8 + n) = 8 + n := by unfold wrap64; omega
  go_enter Tryd.func54, Tryd.ntmps54
  go_wp2_with (go_at_call 62; refine (frame_number.calls _ _ _ _ _ HR0.out hc0 HN.out).mono ?_; rintro e w1 ⟨rfl, nd, rfl⟩)
  have hr1 := HRR.out.1
  have hr2 := HRR.out.2.1
  have hr3 := HRR.out.2.2
  have hw8 : IntKind.i64.wrap (8 + n) = 8 + n := by rw [IntKind.wrap_i64]; omega
  have HSUM : Aside0 (∀ k, Calls Tryd.prog 50 #[.slice (some ⟨w.heap.size, 0, none⟩) 2 2] ((w.drewN k).alloc (.cells #[.slice A0 y1.length c0, .slice A2 y2.length c2_] 31)) fun e w' => e = .returned (.int .u32 s) ∧ ∃ q, w' = ((w.drewN k).alloc (.cells #[.slice A0 y1.length c0, .slice A2 y2.length c2_] 31)).drewN q) := by
   refine ⟨fun k => ?_⟩
   have hb : Below w.heap.size w ((w.drewN k).alloc (.cells #[.slice A0 y1.length c0, .slice A2 y2.length c2_] 31)) := (pw_below_drewN (Below.refl _ _) k).alloc (Nat.le_refl _) _
   have hb' := Kd.C_below HR0.out hb
   refine (frame_sum.calls (some ⟨w.heap.size, 0, none⟩) 2 [y1, y2] s _ (C_rows (vs := [.slice A0 y1.length c0, .slice A2 y2.length c2_]) (heap_alloc_new (w.drewN k) _) [y1, y2] rfl (by simp) (fun j x v hx hv => ?_)) (by simp) (globBelow HG.out hb) HS.out).mono (fun e w' ⟨h1, h2⟩ => ⟨h1, h2.out⟩)
   match j, hx, hv with
   | 0, hx, hv =>
    obtain rfl : y1 = x := by simpa using hx
    obtain rfl : Value.slice A0 y1.length c0 = v := by simpa using hv
    exact ⟨A0, c0, rfl, hcy1, HCC.out.1 _ hb'⟩
   | 1, hx, hv =>
    obtain rfl : y2 = x := by simpa using hx
    obtain rfl : Value.slice A2 y2.length c2_ = v := by simpa using hv
    exact ⟨A2, c2_, rfl, hcy2, HCC.out.2.1 _ hb'⟩
   | j + 2, hx, hv => simp at hx
  have HNUM : Aside0 (∀ W, Below w.heap.size w W → Calls Tryd.prog 62 #[.slice A3 y3.length c3_] W fun e w' => e = .returned (.int .u32 m) ∧ ∃ q, w' = W.drewN q) :=
   ⟨fun W hb => (frame_number.calls _ _ _ _ _ (HCC.out.2.2 _ (Kd.C_below HR0.out hb)) hcy3 HM.out).mono (fun e w' ⟨h1, h2⟩ => ⟨h1, h2.out⟩)⟩
  go_region_with (first | (go_at_call 50; refine (HSUM.out _).mono ?_; rintro e w' ⟨rfl, q, rfl⟩) | (go_at_call 62; refine (HNUM.out _ (by repeat (with_reducible first | exact Below.refl _ _ | apply pw_below_drewN | apply below_alloc))).mono ?_; rintro e w' ⟨rfl, q, rfl⟩))
  have HLN : Aside0 (y2.length < 140737488355328) := by
   have h1 := Hy2.out
   have h2 : y2.length ≤ 1048576 + 8 := by rw [h1]; simp; omega
   exact ⟨by omega⟩
  rcases HH.out with ⟨e0, rfl, rfl, rfl⟩ | ⟨e0, rfl, rfl, rfl⟩
  ·have t1 : (s != m) = false := bne_eq_false_iff_eq.2 e0
   have t2 : (s == m) = true := beq_iff_eq.2 e0
   clear e0 HH
   go_wp2_with (go_at_call 63; refine (slices_Clone.calls _ _ _ _ _ (HCC.out.2.1 _ (Kd.C_below HR0.out (by repeat (with_reducible first | exact Below.refl _ _ | apply pw_below_drewN | apply below_alloc)))) hcy2 (if_pos HLN.out)).mono ?_; rintro e w5 ⟨v5, rfl, ho5, hb5⟩; have HO5 := Aside0.mk ho5; have HB5 := Aside0.mk hb5; clear ho5 hb5)
   go_ret3
   refine ⟨_, rfl, Kd.R_lower HO5.out (by simp [World.drewN]), below_then (by repeat (with_reducible first | exact Below.refl _ _ | apply pw_below_drewN | apply below_alloc)) (by simp [World.drewN]) HB5.out⟩
  ·have t1 : (s != m) = true := bne_iff_ne.2 e0
   have t2 : (s == m) = false := beq_eq_false_iff_ne.2 e0
   clear e0 HH
   go_wp2_with fail
   go_ret3
   exact ⟨_, rfl, Kd.R_nil _ _ _ _ _, by repeat (with_reducible first | exact Below.refl _ _ | apply pw_below_drewN | apply below_alloc)⟩
end Go.Proofs.YtlkaffbgekbcfaaDoor.Pr
end
section
namespace Go.Proofs.YtlkaffbgekbcfaaDoor.Pr
open Go.RowKit Go.Proofs.YtlkaffbgekbcfaaDoorW.PrintWords Go.Proofs.YtlkaffbgekbcfaaDoorW.PrintLast Go.Proofs.YtlkaffbgekbcfaaDoorW.PrintMore
def wrongV (n : Int) : Value := .iface 90 (.agg #[.int .i64 n])
theorem give_calls (n : Int) (w : World) : Calls Tryd.prog 58 #[.int .i64 n] w fun e w' => e = .panicked [{ v := wrongV n, recovered := false }] ∧ w' = w := by
 go_enter Tryd.func58, Tryd.ntmps58
 go_wp2
 unfold bodyPost
 first | exact ⟨rfl, rfl⟩ | exact ⟨rfl, ⟨rfl, rfl⟩⟩ | (simp; rfl) | (simp only []; trace_state)
end Go.Proofs.YtlkaffbgekbcfaaDoor.Pr
end
section
namespace Go.Proofs.YtlkaffbgekbcfaaDoor.Pr
open Go.RowKit Go.Proofs.YtlkaffbgekbcfaaDoorW.PrintWords Go.Proofs.YtlkaffbgekbcfaaDoorW.PrintLast Go.Proofs.YtlkaffbgekbcfaaDoorW.PrintMore
set_option maxHeartbeats 1600000 in
theorem caught_idle (p : Addr) (w : World) :
  CallsD Tryd.prog 45 #[.pointer (some p)] .returning w fun e u' w' => e = .returned (.tuple #[]) ∧ u' = .returning ∧ w' = w := by
 refine callsD_of_wpS Tryd.func45 rfl fun c₀ cs hu => ?_
 apply wpS_seq
 apply wpS_region
 simp [wpOpsS, go_sem, recoverD, hu, Tryd.ntmps45, Exit.thenS]
 apply wpS_seq
 apply wpS_region
 simp [wpOpsS, go_sem, Exit.thenS]
 refine wpS_cond (t := false) (by simp [Act.eval, Array.replicate]) ?_
 simp only [Bool.false_eq_true, if_false]
 refine wpS_of_wp (wp_skip ?_)
 cases c₀
 simp_all [bodyPostS, results, Tryd.results45]
set_option maxHeartbeats 400000 in
theorem caught_panicking (pb po : Nat) (x n : Int) (pv : Value) (hpv : pv = .agg #[.int .i64 n]) (older : List PanicEntry) (w : World) (hc : w.cell? ⟨pb, po, none⟩ = some (.int .i64 x)) (hz : w.frozen? ⟨pb, po, none⟩ = false) :
  CallsD Tryd.prog 45 #[.pointer (some ⟨pb, po, none⟩)] (.panicking ({ v := .iface 90 pv, recovered := false } :: older)) w fun e u' w' =>
   e = .returned (.tuple #[]) ∧ u' = .panicking ({ v := .iface 90 pv, recovered := true } :: older) ∧ Below w.heap.size (w.setCell ⟨pb, po, none⟩ (.int .i64 n)) w' := by
 refine callsD_of_wpS Tryd.func45 rfl fun c₀ cs hu => ?_
 apply wpS_seq
 apply wpS_region
 simp [wpOpsS, go_sem, recoverD, hu, Tryd.ntmps45, Exit.thenS]
 apply wpS_seq
 apply wpS_region
 simp [wpOpsS, go_sem, Exit.thenS]
 refine wpS_cond (t := true) (by simp [Act.eval, Array.replicate]) ?_
 simp only [if_true]
 refine wpS_of_wp ?_
 have hcs : ∃ Q : Exit → Act → World → Prop, (∀ w', Below w.heap.size (w.setCell ⟨pb, po, none⟩ (.int .i64 n)) w' → ∀ a' : Act, a'.defers = [] → Q .normal a' w') ∧ Q = (fun e a' w' => bodyPostS Tryd.prog Tryd.f45 c₀ cs (fun e u' w' =>
   e = .returned (.tuple #[]) ∧ u' = .panicking ({ v := .iface 90 pv, recovered := true } :: older) ∧ Below w.heap.size (w.setCell ⟨pb, po, none⟩ (.int .i64 n)) w') e a' ({ c₀ with mode := .panicking ({ v := .iface 90 pv, recovered := true } :: older) } :: cs) w') := by
  refine ⟨_, fun w' hw a' ha' => ?_, rfl⟩
  refine ⟨ha', _, rfl, .tuple #[], ?_, rfl, rfl, hw⟩
  simp [results, Tryd.results45, go_sem]
 obtain ⟨Q, hQ, hq⟩ := hcs
 have HQ := Aside0.mk hQ
 clear hQ
 rw [← hq]
 clear hq hu
 subst hpv
 have ht : (#[Value.pointer (some ⟨pb, po, none⟩)] ++ ((((Array.replicate 19 undef).setIfInBounds 4 (.iface 90 (.agg #[.int .i64 n]))).setIfInBounds 1 (.iface 90 (.agg #[.int .i64 n]))).setIfInBounds 5 (.iface 90 (.agg #[.int .i64 n]))).setIfInBounds 6 (Value.bool true)) = #[.pointer (some ⟨pb, po, none⟩), undef, .iface 90 (.agg #[.int .i64 n]), undef, undef, .iface 90 (.agg #[.int .i64 n]), .iface 90 (.agg #[.int .i64 n]), .bool true, undef, undef, undef, undef, undef, undef, undef, undef, undef, undef, undef, undef] := by kernel_rfl
 rw [ht]
 clear ht
 have hta : ∀ W : World, (Instr.typeAssert (.iface 90 (.agg #[.int .i64 n])) 20 90 true).run Tryd.prog W = .ok (.tuple #[.agg #[.int .i64 n], .bool true]) W := fun W => by kernel_rfl
 have hlt : pb < w.heap.size := World.block_lt_of_cell? w _ hc
 go_wp2
 exact HQ.out _ ((Below.refl _ _).alloc (by simp) _) _ rfl
end Go.Proofs.YtlkaffbgekbcfaaDoor.Pr
end
section
namespace Go.Proofs.YtlkaffbgekbcfaaDoor.Pr
open Go.RowKit Go.Proofs.YtlkaffbgekbcfaaDoorW.PrintWords Go.Proofs.YtlkaffbgekbcfaaDoorW.PrintLast Go.Proofs.YtlkaffbgekbcfaaDoorW.PrintMore
structure Wr (B p : Nat) (w : World) (v : Value) (xs : List Int) : Prop where
 blk : w.heap[p]? = some (.cells #[v] 76 (0, 0))
 own : w.ownsRow B 5 1 v xs.length (nums .u8 xs)
 base : B ≤ p
theorem Wr.ne {B p : Nat} {w : World} {v : Value} {xs : List Int} (h : Wr B p w v xs) : v.ownBlock ≠ some p := by
 intro hk
 rcases h.own.2 with ⟨rfl, _⟩ | ⟨g, cap, cur, rfl, _, hh, _⟩
 ·simp [Value.ownBlock] at hk
 ·have : g = p := by simpa [Value.ownBlock] using hk
  subst this
  rw [h.blk] at hh
  injection hh with hh
  injection hh with _ ht
  exact absurd ht (by decide)
theorem Wr.lt {B p : Nat} {w : World} {v : Value} {xs : List Int} (h : Wr B p w v xs) : p < w.heap.size := (Array.getElem?_eq_some_iff.1 h.blk).1
def WrEnd (B p : Nat) (w : World) (v : Value) (w' : World) (ys : List Int) : Prop :=
 ∃ v', Wr B p w' v' ys ∧ (v'.ownBlock = v.ownBlock ∨ ∃ b, v'.ownBlock = some b ∧ w.heap.size ≤ b) ∧ Below B w w' ∧ Kept w w' (fun k => k = p ∨ some k = v.ownBlock)
theorem WrEnd.refl {B p : Nat} {w : World} {v : Value} {xs : List Int} (h : Wr B p w v xs) : WrEnd B p w v w xs := ⟨v, h, .inl rfl, Below.refl _ _, Kept.refl _ _⟩
theorem WrEnd.then_ {B p : Nat} {w w1 w2 : World} {v v1 : Value} {xs ys zs : List Int} (hv : Wr B p w1 v1 ys) (ho : v1.ownBlock = v.ownBlock ∨ ∃ b, v1.ownBlock = some b ∧ w.heap.size ≤ b) (hb : Below B w w1) (hk : Kept w w1 (fun k => k = p ∨ some k = v.ownBlock))
  (h : WrEnd B p w1 v1 w2 zs) : WrEnd B p w v w2 zs := by
 obtain ⟨v2, h1, h2, h3, h4⟩ := h
 refine ⟨v2, h1, ?_, hb.trans h3, hk.then_ h4 ?_⟩
 ·rcases h2 with h2 | ⟨b, h2, h2'⟩
  ·rw [h2]; exact ho
  ·exact .inr ⟨b, h2, Nat.le_trans hk.1 h2'⟩
 ·intro k hk'
  rcases hk' with rfl | hk'
  ·exact .inl (.inl rfl)
  ·rcases ho with ho | ⟨b, ho, hb'⟩
   ·exact .inl (.inr (hk'.trans ho))
   ·rw [ho] at hk'
    injection hk' with hk'
    exact .inr (hk' ▸ hb')
def wrongE (n : Int) : Ending := .panicked [{ v := wrongV n, recovered := false }]
def lookE (n : Nat) : Ending := if 1048576 < n then wrongE 2 else .returned (.tuple #[])
theorem looks_calls {B p : Nat} {w : World} {v : Value} {xs : List Int} (h : Wr B p w v xs) : Calls Tryd.prog 59 #[.pointer (some ⟨p, 0, none⟩)] w fun e w' => e = lookE xs.length ∧ w = w' := by
 obtain ⟨A, c, hv⟩ := own_slice h.own
 have hc : w.cell? ⟨p, 0, none⟩ = some (.slice A xs.length c) := by rw [← hv]; exact (blk_cell h.blk 0).trans rfl
 clear h hv
 by_cases hx : 1048576 < xs.length
 ·have H : Aside0 (lookE xs.length = wrongE 2) := ⟨by unfold lookE; rw [if_pos hx]⟩
  have h1 : decide (1048576 < (xs.length : Int)) = true := decide_eq_true (by omega)
  have h2 : decide (1048576 < xs.length) = true := decide_eq_true hx
  clear hx
  go_enter Tryd.func59, Tryd.ntmps59
  go_wp2_with (go_at_call 58; refine (give_calls _ _).mono ?_; rintro e w' ⟨rfl, rfl⟩)
  unfold bodyPost
  exact ⟨rfl, H.out.symm, rfl⟩
 ·have H : Aside0 (lookE xs.length = .returned (.tuple #[])) := ⟨by unfold lookE; rw [if_neg hx]⟩
  have h1 : decide (1048576 < (xs.length : Int)) = false := decide_eq_false (by omega)
  have h2 : decide (1048576 < xs.length) = false := decide_eq_false hx
  clear hx
  go_enter Tryd.func59, Tryd.ntmps59
  go_wp2
  go_end0
  exact ⟨H.out.symm, rfl⟩
end Go.Proofs.YtlkaffbgekbcfaaDoor.Pr
end
section
namespace Go.Proofs.YtlkaffbgekbcfaaDoor.Pr
open Go.RowKit Go.Proofs.YtlkaffbgekbcfaaDoorW.PrintWords Go.Proofs.YtlkaffbgekbcfaaDoorW.PrintLast Go.Proofs.YtlkaffbgekbcfaaDoorW.PrintMore
theorem lookE_or (n : Nat) : lookE n = .returned (.tuple #[]) ∨ lookE n = wrongE 2 := by
 unfold lookE
 split
 ·exact .inr rfl
 ·exact .inl rfl
def beB (n : Int) : Nat → List Int
 | 0 => []
 | m + 1 => n / 2 ^ (8 * m) % 256 :: beB n m
theorem beB_length (n : Int) (m : Nat) : (beB n m).length = m := by
 induction m with
 | zero => rfl
 | succ m ih => simp [beB, ih]
theorem Wr.pushed {B p : Nat} {w W w1 : World} {v v1 : Value} {xs ys : List Int} {n : Nat} (h : Wr B p w v xs) (hW : Below w.heap.size w W)
  (hown : w1.ownsRow B 5 1 v1 n (nums .u8 (xs ++ ys))) (hg : W.grownBy w1 v.ownBlock) (hat : v1.ownBlock = v.ownBlock ∨ v1.ownBlock = some W.heap.size) :
  Wr B p (w1.setCell ⟨p, 0, none⟩ v1) v1 (xs ++ ys) ∧ (v1.ownBlock = v.ownBlock ∨ ∃ b, v1.ownBlock = some b ∧ w.heap.size ≤ b) ∧ Below B w (w1.setCell ⟨p, 0, none⟩ v1) ∧ Kept w (w1.setCell ⟨p, 0, none⟩ v1) (fun k => k = p ∨ some k = v.ownBlock) := by
 have hp := h.lt
 have hpW : W.heap[p]? = some (.cells #[v] 76 (0, 0)) := (hW.block p hp).trans h.blk
 have hp1 : w1.heap[p]? = some (.cells #[v] 76 (0, 0)) := (hg.block p (by have := hW.size; omega) (fun e => h.ne e.symm)).trans hpW
 have hn : n = (xs ++ ys).length := by have := hown.1; simp only [nums_length, Nat.mul_one] at this; exact this.symm
 subst hn
 have hne1 : v1.ownBlock ≠ some p := by
  rcases hat with e | e
  ·rw [e]; exact h.ne
  ·rw [e]; intro hh; injection hh with hh; have := hW.size; omega
 have hK1 : Kept w w1 (fun k => k = p ∨ some k = v.ownBlock) := (Kept.of_below hW _).of_grown hg (fun k hk => .inl (.inr hk.symm))
 have hB1 : Below B w w1 := (hW.mono (Nat.le_trans h.base (Nat.le_of_lt hp))).grown hg (Nat.le_trans h.base (by have := hW.size; omega)) (own_base h.own)
 refine ⟨⟨?_, ?_, h.base⟩, ?_, ?_, ?_⟩
 ·unfold World.setCell
  simp only [Array.getElem?_modify, if_pos, hp1]
  rfl
 ·refine hown.kept (row := some p) ⟨rfl, rfl, rfl, by simp [World.setCell], fun k _ hk => Below.heap_setCell w1 _ v1 k (fun e => hk (by rw [e]))⟩ (.inr hne1)
 ·rcases hat with e | e
  ·exact .inl e
  ·exact .inr ⟨_, e, hW.size⟩
 ·exact hB1.setCell h.base _
 ·exact hK1.setCell (.inl (.inl rfl)) _
theorem Wr.ahead {B p : Nat} {w W w1 : World} {v : Value} {xs : List Int} (h : Wr B p w v xs) (hW : Below w.heap.size w W) (hg : W.grownBy w1 v.ownBlock) : w1.cell? ⟨p, 0, none⟩ = some v ∧ w1.frozen? ⟨p, 0, none⟩ = false := by
 have hp := h.lt
 have hp1 : w1.heap[p]? = some (.cells #[v] 76 (0, 0)) := (hg.block p (by have := hW.size; omega) (fun e => h.ne e.symm)).trans ((hW.block p hp).trans h.blk)
 exact ⟨(blk_cell hp1 0).trans rfl, blk_frozen hp1 0⟩
theorem wr_chain {B p : Nat} {w w1 w2 : World} {v v1 v2 : Value} (h1 : (v1.ownBlock = v.ownBlock ∨ ∃ b, v1.ownBlock = some b ∧ w.heap.size ≤ b) ∧ Below B w w1 ∧ Kept w w1 (fun k => k = p ∨ some k = v.ownBlock))
  (h2 : (v2.ownBlock = v1.ownBlock ∨ ∃ b, v2.ownBlock = some b ∧ w1.heap.size ≤ b) ∧ Below B w1 w2 ∧ Kept w1 w2 (fun k => k = p ∨ some k = v1.ownBlock)) :
  (v2.ownBlock = v.ownBlock ∨ ∃ b, v2.ownBlock = some b ∧ w.heap.size ≤ b) ∧ Below B w w2 ∧ Kept w w2 (fun k => k = p ∨ some k = v.ownBlock) := by
 obtain ⟨ho, hb, hk⟩ := h1
 obtain ⟨h2, h3, h4⟩ := h2
 refine ⟨?_, hb.trans h3, hk.then_ h4 ?_⟩
 ·rcases h2 with h2 | ⟨b, h2, h2'⟩
  ·rw [h2]; exact ho
  ·exact .inr ⟨b, h2, Nat.le_trans hk.1 h2'⟩
 ·intro k hk'
  rcases hk' with rfl | hk'
  ·exact .inl (.inl rfl)
  ·rcases ho with ho | ⟨b, ho, hb'⟩
   ·exact .inl (.inr (hk'.trans ho))
   ·rw [ho] at hk'
    injection hk' with hk'
    exact .inr (hk' ▸ hb')
set_option maxHeartbeats 1600000 in
set_option maxRecDepth 100000 in
theorem put_calls {B p : Nat} {w : World} {v : Value} {xs : List Int} (h : Wr B p w v xs) (hl : xs.length ≤ 1048576) (k n : Int) (m : Nat) (hm : m ≤ 8) :
  Calls Tryd.prog 57 #[.pointer (some ⟨p, 0, none⟩), .int .i64 k, .int .u64 n, .int .i64 m] w fun e w' => e = lookE (xs.length + (1 + m)) ∧ WrEnd B p w v w' (xs ++ (k % 256 :: beB n m)) := by
 obtain ⟨A, c, hv⟩ := own_slice h.own
 obtain ⟨i0, hi, hz0, hz1, hz2⟩ := info_parts info5
 have hc : w.cell? ⟨p, 0, none⟩ = some (.slice A xs.length c) := by rw [← hv]; exact (blk_cell h.blk 0).trans rfl
 subst hv
 have H := Aside0.mk h
 have HI := Aside0.mk hi
 have hp := h.lt
 clear h hi
 go_enter Tryd.func57, Tryd.ntmps57
 go_wp2_with (at_builtin; refine wpList_append_lies _ rfl (.tmp 13) (.tmp 16) 31 rfl B 5 i0 (.int .u8 0) 1 1 Tryd.underlying31 HI.out hz0 hz1 hz2 rfl (by decide) (.slice A xs.length c) xs.length (nums .u8 xs) rfl (H.out.own.alloc _) ⟨w.heap.size, 0, none⟩ 1 1 [.int .u8 (k % 256)] rfl rfl (World.news_of_block (heap_alloc_new w _)) ?c2 Nat.zero_lt_one (by simp only [maxLen]; omega) (by omega) (by have := H.out.base; simp only [World.alloc, Array.size_push]; omega) _ rfl ?next)
 case c2 => intro u hu; simp at hu; subst hu; rfl
 case next =>
 intro g cap w1 hown hgrow hat hlt
 have hW : Below w.heap.size w (w.alloc (.cells #[.int .u8 (k % 256)] 5)) := (Below.refl _ _).alloc (Nat.le_refl _) _
 obtain ⟨hc1, hz1'⟩ := H.out.ahead hW hgrow
 have hpush := H.out.pushed (ys := [k % 256]) hW (by simpa [nums] using hown) hgrow (by rcases hat with e | e; exact .inl e.symm; exact .inr (by rw [e]; simp [Value.ownBlock]))
 have HP := Aside0.mk hpush
 clear hpush hown hgrow hat hW hlt hc
 go_wp2
 clear hc1 hz1'
 obtain ⟨wo, hwo⟩ : ∃ wo, wo = w1.setCell ⟨p, 0, none⟩ (.slice (some ⟨g, 0, none⟩) (xs.length + 1) cap) := ⟨_, rfl⟩
 rw [← hwo] at HP ⊢
 clear hwo
 have HS : Aside0 (∃ v1 ys, (Wr B p wo v1 (xs ++ (k % 256 :: ys)) ∧ (v1.ownBlock = (Value.slice A xs.length c).ownBlock ∨ ∃ b, v1.ownBlock = some b ∧ w.heap.size ≤ b) ∧ Below B w wo ∧ Kept w wo (fun k => k = p ∨ some k = (Value.slice A xs.length c).ownBlock)) ∧ ys ++ beB n m = beB n m) := ⟨_, [], HP.out, rfl⟩
 clear HP
 go_loopg [8] m (fun j s8 wr => ∃ i : Int, s8 = .int .i64 i ∧ Aside0 (i + 1 = (j : Int) ∧ j ≤ 8) ∧ Aside0 (∃ v1 ys, (Wr B p wr v1 (xs ++ (k % 256 :: ys)) ∧ (v1.ownBlock = (Value.slice A xs.length c).ownBlock ∨ ∃ b, v1.ownBlock = some b ∧ w.heap.size ≤ b) ∧ Below B w wr ∧ Kept w wr (fun k => k = p ∨ some k = (Value.slice A xs.length c).ownBlock)) ∧ ys ++ beB n j = beB n m))
 case atStart => exact ⟨_, rfl, ⟨by omega, hm⟩, HS⟩
 case round =>
  clear HS
  obtain ⟨i, rfl, HI', HA⟩ := hrel
  cases gk with
  | zero =>
   obtain ⟨v1, ys, ⟨hw1, ho1, hb1, hk1⟩, hys⟩ := HA.out
   have hi0 : decide (i ≥ 0) = false := decide_eq_false (by have := HI'.out.1; omega)
   have hyl : ys.length = m := by have := congrArg List.length hys; simp only [List.length_append, beB_length] at this; omega
   obtain rfl : ys = beB n m := by simpa [beB] using hys
   have HL := Aside0.mk (looks_calls hw1)
   have HE : Aside0 (WrEnd B p w (Value.slice A xs.length c) wr (xs ++ (k % 256 :: beB n m))) := ⟨⟨v1, hw1, ho1, hb1, hk1⟩⟩
   have HN : Aside0 (lookE (xs ++ (k % 256 :: beB n m)).length = lookE (xs.length + (1 + m))) := ⟨by simp only [List.length_append, List.length_cons, beB_length]; congr 1; omega⟩
   clear hw1 ho1 hb1 hk1 hys HA H HI' hyl
   go_wp2_with fail
   refine HL.out.mono ?_
   rintro e w2 ⟨rfl, rfl⟩
   rw [HN.out]
   clear HL HN
   rcases lookE_or (xs.length + (1 + m)) with hE | hE
   ·have HQ := Aside0.mk hE
    rw [hE]
    clear hE
    go_wp2
    go_end0
    exact ⟨HQ.out.symm, HE.out⟩
   ·have HQ := Aside0.mk hE
    rw [hE]
    clear hE
    unfold wrongE
    go_wp2
    unfold bodyPost
    exact ⟨rfl, HQ.out.symm, HE.out⟩
  | succ j => 
   obtain ⟨v1, ys, ⟨hw1, ho1, hb1, hk1⟩, hys⟩ := HA.out
   obtain rfl : i = (j : Int) := by have := HI'.out.1; omega
   have hj8 : j < 8 := HI'.out.2
   have hyl : ys.length ≤ 8 := by have := congrArg List.length hys; simp only [List.length_append, beB_length] at this; omega
   have hi0 : decide ((j : Int) ≥ 0) = true := decide_eq_true (by omega)
   obtain ⟨A1, c1, hv1⟩ := own_slice hw1.own
   obtain ⟨zs, hzs⟩ : ∃ zs, zs = xs ++ (k % 256 :: ys) := ⟨_, rfl⟩
   rw [← hzs] at hw1 hv1
   have hzl : zs.length ≤ 1048600 := by rw [hzs]; simp only [List.length_append, List.length_cons]; omega
   have HZ := Aside0.mk hzs
   have HY := Aside0.mk hys
   have hc1 : wr.cell? ⟨p, 0, none⟩ = some (.slice A1 zs.length c1) := by rw [← hv1]; exact (blk_cell hw1.blk 0).trans rfl
   have hzf1 : wr.frozen? ⟨p, 0, none⟩ = false := blk_frozen hw1.blk 0
   subst hv1
   have H1 := Aside0.mk hw1
   have H2 := Aside0.mk (And.intro ho1 (And.intro hb1 hk1))
   clear hw1 ho1 hb1 hk1 hys hzs HA H
   go_wp2_with fail
   have hw8 : IntKind.i64.wrap (8 * (j : Int)) = 8 * (j : Int) := IntWalk.i64_in _ (by omega)
   have hs0 : 0 ≤ 8 * (j : Int) := by omega
   have hpr : p < wr.heap.size := H1.out.lt
   have hs64 : 8 * (j : Int) ≤ 64 := by omega
   go_region_law ((refine step_append_lies _ (by rfl) (.tmp 30) (.tmp 36) 31 (by rfl) B 5 i0 (.int .u8 0) 1 1 Tryd.underlying31 HI.out hz0 hz1 hz2 rfl (by decide) (.slice A1 zs.length c1) zs.length (nums .u8 zs) (by simp [Act.eval, Act.put]) (H1.out.own.alloc _) ⟨wr.heap.size, 0, none⟩ 1 1 [.int .u8 (IntKind.u8.wrap (n / 2 ^ (8 * (j : Int)).toNat))] (by simp [Act.eval, Act.put]) rfl (World.news_of_block (heap_alloc_new _ _)) (fun u hu => by simp at hu; subst hu; rfl) Nat.zero_lt_one (by simp only [maxLen]; omega) (by omega) (by have := H1.out.base; have := H1.out.lt; simp; omega) _ rfl ?_; intro g2 cap2 w2 hown2 hgrow2 hat2 hlt2; have hW2 : Below wr.heap.size wr (wr.drew.alloc (.cells #[.int .u8 (IntKind.u8.wrap (n / 2 ^ (8 * (j : Int)).toNat))] 5)) := (below_drew (Below.refl _ _)).alloc (Nat.le_refl _) _; have hcz := H1.out.ahead hW2 hgrow2; have hc2 := hcz.1; have hz2' := hcz.2; have HP2 := Aside0.mk (H1.out.pushed (ys := [IntKind.u8.wrap (n / 2 ^ (8 * (j : Int)).toNat)]) hW2 (by simpa [nums] using hown2) hgrow2 (by rcases hat2 with e | e; exact .inl e.symm; exact .inr (by rw [e]; simp [Value.ownBlock]))); clear hcz hW2 hown2 hgrow2 hat2 hlt2))
   all_goals
    go_wp2
    go_roundg j
    case measure => omega
    case rel =>
     obtain ⟨hq1, hq2⟩ := HP2.out
     have hq3 := wr_chain H2.out hq2
     have hq4 : zs ++ [IntKind.u8.wrap (n / 2 ^ (8 * (j : Int)).toNat)] = xs ++ (k % 256 :: (ys ++ [n / 2 ^ (8 * j) % 256])) := by
      rw [HZ.out, IntKind.wrap_u8, show (8 * (j : Int)).toNat = 8 * j by omega]; simp
     rw [hq4] at hq1
     refine ⟨_, rfl, ⟨by omega, by omega⟩, ⟨_, ys ++ [n / 2 ^ (8 * j) % 256], ⟨hq1, hq3⟩, ?_⟩⟩
     rw [← HY.out]
     simp [beB]
end Go.Proofs.YtlkaffbgekbcfaaDoor.Pr
end
section
namespace Go.Proofs.YtlkaffbgekbcfaaDoor.Pr
open Go.RowKit Go.Proofs.YtlkaffbgekbcfaaDoorW.PrintWords Go.Proofs.YtlkaffbgekbcfaaDoorW.PrintLast Go.Proofs.YtlkaffbgekbcfaaDoorW.PrintMore
def lookC (n : Nat) : Int := if 1048576 < n then 2 else 0
def endOf (c : Int) : Ending := if c = 0 then .returned (.tuple #[]) else wrongE c
theorem lookE_eq (n : Nat) : lookE n = endOf (lookC n) := by
 unfold lookE endOf lookC
 split
 ·rw [if_neg (by omega)]
 ·rw [if_pos rfl]
theorem endOf_zero : endOf 0 = .returned (.tuple #[]) := rfl
theorem endOf_not {c : Int} (h : c ≠ 0) : endOf c = wrongE c := by unfold endOf; rw [if_neg h]
theorem lookC_zero {n : Nat} (h : lookC n = 0) : n ≤ 1048576 := by
 unfold lookC at h
 split at h <;> omega
def foldW {α : Type} (f : α → List Int → Option (List Int × Int)) : List α → List Int → Option (List Int × Int)
 | [], ys => some (ys, 0)
 | x :: rest, ys => (f x ys).bind fun r => if r.2 = 0 then foldW f rest r.1 else some r
def wrCell : Nat → S26 → Nat → List Int → Option (List Int × Int)
 | 0, _, _, _ => none
 | k + 1, c, deep, xs =>
  if c.f0 = 0 then some (xs ++ (0 :: beB c.f1 8), lookC (xs.length + 9))
  else if c.f0 = 1 then
   if 1048576 < c.f2.size then some (xs, 2)
   else if lookC (xs.length + 5) = 0 then some (xs ++ (1 :: beB c.f2.size 4) ++ bytesOf c.f2, lookC (xs.length + 5 + c.f2.size))
   else some (xs ++ (1 :: beB c.f2.size 4), 2)
  else if c.f0 = 2 then
   if 64 < deep + 1 then some (xs, 2)
   else if 1048576 < c.f3.length then some (xs, 2)
   else if lookC (xs.length + 5) = 0 then foldW (fun x ys => wrCell k x (deep + 1) ys) c.f3 (xs ++ (2 :: beB c.f3.length 4))
   else some (xs ++ (2 :: beB c.f3.length 4), 2)
  else some (xs, 1)
section
variable {P : Program} (w : World)
theorem append_str_at (base : Nat) (t u ty e : TypeId) (i : TypeInfo) (ht : P.underlying t = some (.slice e)) (hu : P.underlying u = some .string) (hi : P.info? e = some i) (hz : i.zero = some (.int .u8 0))
  (hsize : i.size = 1) (hby : i.bytes = 1) (v : Value) (n : Nat) (xs : List Value) (hown : w.ownsRow base e 1 v n xs) (s : ByteArray)
  (hbytes : n + s.size ≤ 140737488355328) (hbase : base ≤ w.heap.size) :
  ∃ A c w', (Builtin.append_ #[t, u] ty #[v, .string s]).run P w = .ok (.slice A (n + s.size) c) w' ∧ w'.ownsRow base e 1 (.slice A (n + s.size) c) (n + s.size) (xs ++ Lib.strCells s) ∧ w.grownBy w' v.ownBlock ∧
   ((Value.slice A (n + s.size) c).ownBlock = v.ownBlock ∨ (Value.slice A (n + s.size) c).ownBlock = some w.heap.size) := by
 have h63 : n + s.size ≤ maxLen := by simp only [maxLen]; omega
 obtain ⟨v', w', hr, h2, h3, h4⟩ := Lib.run_append_own_string (P := P) w base t u ty e i ht hu hi hz hsize hby v n xs hown s h63 hbytes hbase
 have hat : v'.ownBlock = v.ownBlock ∨ v'.ownBlock = some w.heap.size := by
  have hxl : xs.length = n := by simpa using hown.1
  rcases hown.2 with ⟨rfl, rfl⟩ | ⟨g, cap, cur, rfl, hbg, hg, hnc, hcm, hcs, htake⟩
  ·by_cases hm : s.size = 0
   ·rw [h4.2 ⟨rfl, hm⟩]; exact .inl rfl
   ·have h5 := run_append_nil_string (P := P) w t u ty e i (.int .u8 0) ht hu hi hz s (by omega) (by omega) (by rw [hby]; omega)
    rw [h5] at hr
    injection hr with hr _
    rw [← hr]; exact .inr rfl
  ·by_cases hroom : n + s.size ≤ cap
   ·have hfit : n + s.size ≤ cur.size := by simp only [Nat.mul_one] at hcs; omega
    have h5 := Lib.run_append_room_string (P := P) w t u ty e i ht hu hi hsize g n cap cur hg s hroom hfit
    rw [h5] at hr
    injection hr with hr _
    rw [← hr]; exact .inl rfl
   ·have h5 := Lib.run_append_grow_string (P := P) w t u ty e i (.int .u8 0) ht hu hi hz ⟨g, 0, none⟩ n cap xs (by rw [hsize]; simpa using hxl) (hown.cells (g := g) rfl) s (by omega) (by omega) (by rw [hby]; exact growslice_fits (by omega) (by omega))
    rw [h5] at hr
    injection hr with hr _
    rw [← hr]; exact .inr rfl
 obtain ⟨A, c, rfl⟩ := own_slice h2
 exact ⟨A, c, w', hr, h2, h3, hat⟩
theorem step_append_str {ops : Array Oper} {o : Oper} {a : Act} {K : Act → World → Prop} {Q : Exit → Act → World → Prop} {E : Prop} (hgd : o.guard = none) (sl x : Operand) (t u : TypeId)
  (ho : o.op = .call { callee := .builtin .append, args := #[sl, x], argTypes := #[t, u] })
  (base : Nat) (e : TypeId) (i : TypeInfo) (ht : P.underlying t = some (.slice e)) (hu : P.underlying u = some .string) (hi : P.info? e = some i) (hz : i.zero = some (.int .u8 0))
  (hsize : i.size = 1) (hby : i.bytes = 1) (v : Value) (n : Nat) (xs : List Value) (hs : a.eval sl = v) (hown : w.ownsRow base e 1 v n xs) (s : ByteArray) (hx : a.eval x = .string s)
  (hbytes : n + s.size ≤ 140737488355328) (hbase : base ≤ w.heap.size)
  (h : ∀ A c w', w'.ownsRow base e 1 (.slice A (n + s.size) c) (n + s.size) (xs ++ Lib.strCells s) → w.grownBy w' v.ownBlock → ((Value.slice A (n + s.size) c).ownBlock = v.ownBlock ∨ (Value.slice A (n + s.size) c).ownBlock = some w.heap.size) → K (a.put o.dst (.slice A (n + s.size) c)) w') :
  if Region.wanted o (yielded ops a.tmps) = true then Oper.wp P o a w K Q else E := by
 have hw : Region.wanted o (yielded ops a.tmps) = true := by simp [Region.wanted, hgd]
 rw [if_pos hw]
 obtain ⟨A, c, w', hr, h2, h3, h4⟩ := append_str_at (P := P) w base t u o.type e i ht hu hi hz hsize hby v n xs hown s hbytes hbase
 unfold Oper.wp execOp
 simp only [ho, resolve, invoke, builtin, Sem.run_bind, Sem.run_pure, Result.andThen_ok, List.map_toArray, List.map_cons, List.map_nil, hs, hx, hr]
 exact h A c w' h2 h3 h4
end
end Go.Proofs.YtlkaffbgekbcfaaDoor.Pr
end
section
namespace Go.Proofs.YtlkaffbgekbcfaaDoor.Pr
open Go.RowKit Go.Proofs.YtlkaffbgekbcfaaDoorW.PrintWords Go.Proofs.YtlkaffbgekbcfaaDoorW.PrintLast Go.Proofs.YtlkaffbgekbcfaaDoorW.PrintMore
theorem Wr.below {B p : Nat} {w w1 : World} {v : Value} {xs : List Int} (h : Wr B p w v xs) (hb : Below w.heap.size w w1) : Wr B p w1 v xs :=
 ⟨(hb.block p h.lt).trans h.blk, pw_own_below h.own hb, h.base⟩
theorem WrEnd.from {B p : Nat} {w w1 w2 : World} {v : Value} {zs : List Int} (hB : B ≤ w.heap.size) (hb : Below w.heap.size w w1) (h : WrEnd B p w1 v w2 zs) : WrEnd B p w v w2 zs := by
 obtain ⟨v2, h1, h2, h3, h4⟩ := h
 refine ⟨v2, h1, ?_, (hb.mono hB).trans h3, (Kept.of_below hb _).then_ h4 (fun k hk => .inl hk)⟩
 rcases h2 with h2 | ⟨b, h2, h2'⟩
 ·exact .inl h2
 ·exact .inr ⟨b, h2, Nat.le_trans hb.size h2'⟩
theorem lookC_or (n : Nat) : lookC n = 0 ∨ lookC n = 2 := by
 unfold lookC
 split
 ·exact .inr rfl
 ·exact .inl rfl
set_option maxHeartbeats 1600000 in
set_option maxRecDepth 100000 in
theorem cell_number (w0 : World) (p : Nat) (N : Int) (S : ByteArray) (V3 : Value) (deep : Nat) (w : World) (v : Value) (xs : List Int) (h : Wr w0.heap.size p w v xs) (hl : xs.length ≤ 1048576) (h3 : V3.oneCell' = true) :
  Calls Tryd.prog 46 #[.pointer (some ⟨p, 0, none⟩), .agg #[.int .i64 0, .int .u64 N, .string S, V3], .int .i64 deep] w fun e w' =>
   e = endOf (lookC (xs.length + 9)) ∧ WrEnd w0.heap.size p w v w' (xs ++ (0 :: beB N 8)) := by
 have hbel : ∀ o, Below w.heap.size w (w.alloc o) := fun o => (Below.refl _ _).alloc (Nat.le_refl _) _
 have H := Aside0.mk h
 have HB := Aside0.mk hbel
 clear h hbel
 go_enter Tryd.func46, Tryd.ntmps46
 go_wp2_with fail
 refine (put_calls (H.out.below (HB.out _)) hl 0 N 8 (by omega)).mono ?_
 rintro e w2 ⟨rfl, hE⟩
 have HE := Aside0.mk (WrEnd.from (Nat.le_trans H.out.base (Nat.le_of_lt H.out.lt)) (HB.out _) hE)
 clear hE
 rw [lookE_eq]
 rcases lookC_or (xs.length + (1 + 8)) with hq | hq
 ·have HQ := Aside0.mk hq
  rw [hq, endOf_zero]
  clear hq
  go_wp2
  go_end0
  exact ⟨by rw [show xs.length + 9 = xs.length + (1 + 8) by omega, HQ.out]; rfl, HE.out⟩
 ·have HQ := Aside0.mk hq
  rw [hq, endOf_not (by decide)]
  clear hq
  unfold wrongE
  go_wp2
  unfold bodyPost
  exact ⟨rfl, by rw [show xs.length + 9 = xs.length + (1 + 8) by omega, HQ.out]; rfl, HE.out⟩
set_option maxHeartbeats 1600000 in
set_option maxRecDepth 100000 in
theorem cell_else (w0 : World) (p : Nat) (k N : Int) (S : ByteArray) (V3 : Value) (deep : Nat) (w : World) (v : Value) (xs : List Int) (h : Wr w0.heap.size p w v xs) (h3 : V3.oneCell' = true) (h0 : k ≠ 0) (h1 : k ≠ 1) (h2 : k ≠ 2) :
  Calls Tryd.prog 46 #[.pointer (some ⟨p, 0, none⟩), .agg #[.int .i64 k, .int .u64 N, .string S, V3], .int .i64 deep] w fun e w' =>
   e = endOf 1 ∧ WrEnd w0.heap.size p w v w' xs := by
 have hbel : ∀ o, Below w.heap.size w (w.alloc o) := fun o => (Below.refl _ _).alloc (Nat.le_refl _) _
 have HE : Aside0 (∀ o, WrEnd w0.heap.size p w v (w.alloc o) xs) := ⟨fun o => WrEnd.from (Nat.le_trans h.base (Nat.le_of_lt h.lt)) (hbel o) (WrEnd.refl (h.below (hbel o)))⟩
 have b0 : (k == 0) = false := beq_eq_false_iff_ne.mpr h0
 have b1 : (k == 1) = false := beq_eq_false_iff_ne.mpr h1
 have b2 : (k == 2) = false := beq_eq_false_iff_ne.mpr h2
 clear h h0 h1 h2 hbel
 go_enter Tryd.func46, Tryd.ntmps46
 go_wp2_with (go_at_call 58; refine (give_calls _ _).mono ?_; rintro e w' ⟨rfl, rfl⟩)
 unfold bodyPost
 exact ⟨rfl, by rw [endOf_not (by decide)]; rfl, HE.out _⟩
set_option maxHeartbeats 1600000 in
set_option maxRecDepth 100000 in
theorem cell_long (w0 : World) (p : Nat) (N : Int) (S : ByteArray) (V3 : Value) (deep : Nat) (w : World) (v : Value) (xs : List Int) (h : Wr w0.heap.size p w v xs) (h3 : V3.oneCell' = true) (hs : 1048576 < S.size) :
  Calls Tryd.prog 46 #[.pointer (some ⟨p, 0, none⟩), .agg #[.int .i64 1, .int .u64 N, .string S, V3], .int .i64 deep] w fun e w' =>
   e = endOf 2 ∧ WrEnd w0.heap.size p w v w' xs := by
 have hbel : ∀ o, Below w.heap.size w (w.alloc o) := fun o => (Below.refl _ _).alloc (Nat.le_refl _) _
 have HE : Aside0 (∀ o, WrEnd w0.heap.size p w v (w.alloc o) xs) := ⟨fun o => WrEnd.from (Nat.le_trans h.base (Nat.le_of_lt h.lt)) (hbel o) (WrEnd.refl (h.below (hbel o)))⟩
 have b0 : decide (1048576 < (S.size : Int)) = true := decide_eq_true (by omega)
 have b1 : decide (1048576 < S.size) = true := decide_eq_true (by omega)
 clear h hbel hs
 go_enter Tryd.func46, Tryd.ntmps46
 go_wp2_with (go_at_call 58; refine (give_calls _ _).mono ?_; rintro e w' ⟨rfl, rfl⟩)
 unfold bodyPost
 exact ⟨rfl, by rw [endOf_not (by decide)]; rfl, HE.out _⟩
end Go.Proofs.YtlkaffbgekbcfaaDoor.Pr
end
section
namespace Go.Proofs.YtlkaffbgekbcfaaDoor.Pr
open Go.RowKit Go.Proofs.YtlkaffbgekbcfaaDoorW.PrintWords Go.Proofs.YtlkaffbgekbcfaaDoorW.PrintLast Go.Proofs.YtlkaffbgekbcfaaDoorW.PrintMore
theorem Wr.far {B p : Nat} {w w1 : World} {v : Value} {xs : List Int} {o : Obj} (h : Wr B p w v xs) (hk : Kept (w.alloc o) w1 (fun k => k = p ∨ some k = v.ownBlock)) : w1.heap[w.heap.size]? = some o := by
 refine blk_kept (heap_alloc_new w o) hk ?_
 rintro (e | e)
 ·have := h.lt; omega
 ·have := own_lt h.own _ e.symm; omega
theorem strCells_bytes (xs : List Int) (s : ByteArray) : nums .u8 xs ++ Lib.strCells s = nums .u8 (xs ++ bytesOf s) := by
 rw [nums_append]
 congr 1
 simp [nums, bytesOf, Lib.strCells]
set_option maxHeartbeats 1600000 in
set_option maxRecDepth 100000 in
theorem cell_text (w0 : World) (p : Nat) (N : Int) (S : ByteArray) (V3 : Value) (deep : Nat) (w : World) (v : Value) (xs : List Int) (h : Wr w0.heap.size p w v xs) (hl : xs.length ≤ 1048576) (h3 : V3.oneCell' = true) (hs : S.size ≤ 1048576) :
  Calls Tryd.prog 46 #[.pointer (some ⟨p, 0, none⟩), .agg #[.int .i64 1, .int .u64 N, .string S, V3], .int .i64 deep] w fun e w' =>
   (lookC (xs.length + 5) = 0 ∧ e = endOf (lookC (xs.length + 5 + S.size)) ∧ WrEnd w0.heap.size p w v w' (xs ++ (1 :: beB S.size 4) ++ bytesOf S)) ∨ (lookC (xs.length + 5) ≠ 0 ∧ e = endOf 2 ∧ WrEnd w0.heap.size p w v w' (xs ++ (1 :: beB S.size 4))) := by
 have hbel : ∀ o, Below w.heap.size w (w.alloc o) := fun o => (Below.refl _ _).alloc (Nat.le_refl _) _
 obtain ⟨i0, hi, hz0, hz1, hz2⟩ := info_parts info5
 have HI := Aside0.mk hi
 have H := Aside0.mk h
 have HB := Aside0.mk hbel
 have b0 : decide (1048576 < (S.size : Int)) = false := decide_eq_false (by omega)
 have b1 : decide (1048576 < S.size) = false := decide_eq_false (by omega)
 have HS := Aside0.mk hs
 have HW : Aside0 (IntKind.u64.wrap (S.size : Int) = (S.size : Int)) := ⟨IntWalk.u64_in _ (by omega)⟩
 clear h hbel hi hs
 go_enter Tryd.func46, Tryd.ntmps46
 go_wp2_with fail
 rw [HW.out]
 refine (put_calls (H.out.below (HB.out _)) hl 1 _ 4 (by omega)).mono ?_
 rintro e w2 ⟨rfl, hE⟩
 rw [lookE_eq]
 rcases lookC_or (xs.length + (1 + 4)) with hq | hq
 ·have HQ := Aside0.mk hq
  rw [hq, endOf_zero]
  have hx5 := lookC_zero hq
  clear hq
  obtain ⟨v1, hw1, ho1, hb1, hk1⟩ := hE
  have hbox := H.out.far hk1
  have hc2 : w2.cell? ⟨w.heap.size, 2, none⟩ = some (.string S) := (blk_cell hbox 2).trans rfl
  obtain ⟨ys, hys⟩ : ∃ ys, ys = xs ++ (1 :: beB S.size 4) := ⟨_, rfl⟩
  have hw1' : Wr w0.heap.size p w2 v1 ys := by rw [hys]; exact hw1
  have hyl : ys.length = xs.length + 5 := by rw [hys]; simp [beB_length]
  have hyl2 : ys.length ≤ 1048576 := by omega
  obtain ⟨A1, c1, hv1⟩ := own_slice hw1'.own
  have hcp : w2.cell? ⟨p, 0, none⟩ = some (.slice A1 ys.length c1) := by rw [← hv1]; exact (blk_cell hw1'.blk 0).trans rfl
  subst hv1
  have H1 := Aside0.mk hw1'
  have H2 : Aside0 (((Value.slice A1 ys.length c1).ownBlock = v.ownBlock ∨ ∃ b, (Value.slice A1 ys.length c1).ownBlock = some b ∧ w.heap.size ≤ b) ∧ Below w0.heap.size w w2 ∧ Kept w w2 (fun k => k = p ∨ some k = v.ownBlock)) := by
   obtain ⟨v3, k1, k2, k3, k4⟩ := WrEnd.from (Nat.le_trans H.out.base (Nat.le_of_lt H.out.lt)) (HB.out _) ⟨_, hw1, ho1, hb1, hk1⟩
   refine ⟨?_, k3, k4⟩
   rcases ho1 with e | ⟨b, e, hb⟩
   ·exact .inl e
   ·exact .inr ⟨b, e, Nat.le_trans (by simp) hb⟩
  have HY := Aside0.mk hys
  have HYL := Aside0.mk hyl
  have hpr : p < w2.heap.size := hw1'.lt
  clear hw1 hw1' ho1 hb1 hk1 hbox hys hyl
  have hsz := HS.out
  go_wp2_with fail
  go_region_law ((refine step_append_str _ (by rfl) (.tmp 38) (.tmp 40) 31 9 (by rfl) w0.heap.size 5 i0 Tryd.underlying31 Tryd.underlying9 HI.out hz0 hz1 hz2 (.slice A1 ys.length c1) ys.length (nums .u8 ys) (by simp [Act.eval, Act.put]) H1.out.own S (by simp [Act.eval, Act.put]) (by omega) (Nat.le_trans H1.out.base (Nat.le_of_lt H1.out.lt)) ?_; intro A2 c2 w3 hown2 hgrow2 hat2; have hcz := H1.out.ahead (below_drew (Below.refl _ _)) hgrow2; have hc3 := hcz.1; have hz3 := hcz.2; have HP2 := Aside0.mk (H1.out.pushed (ys := bytesOf S) (below_drew (Below.refl _ _)) (by rw [← strCells_bytes]; exact hown2) hgrow2 hat2); clear hcz hown2 hgrow2 hat2))
  all_goals
   clear hc2 hcp
   have HL := Aside0.mk (looks_calls HP2.out.1)
   go_wp2_with fail
   refine HL.out.mono ?_
   rintro e w5 ⟨rfl, rfl⟩
   clear HL
   have HE : Aside0 (WrEnd w0.heap.size p w v (w3.setCell ⟨p, 0, none⟩ (.slice A2 (ys.length + S.size) c2)) (xs ++ (1 :: beB S.size 4) ++ bytesOf S)) := ⟨⟨_, by rw [← HY.out]; exact HP2.out.1, wr_chain H2.out HP2.out.2⟩⟩
   rw [show lookE (ys ++ bytesOf S).length = endOf (lookC (xs.length + 5 + S.size)) from by rw [lookE_eq, List.length_append, HYL.out, bytesOf_length]]
   rcases lookC_or (xs.length + 5 + S.size) with hq2 | hq2
   ·have HQ2 := Aside0.mk hq2
    rw [hq2, endOf_zero]
    clear hq2
    go_wp2
    go_end0
    exact Or.inl ⟨HQ.out, by rw [HQ2.out]; rfl, HE.out⟩
   ·have HQ2 := Aside0.mk hq2
    rw [hq2, endOf_not (by decide)]
    clear hq2
    unfold wrongE
    go_wp2
    unfold bodyPost
    exact ⟨rfl, Or.inl ⟨HQ.out, by rw [HQ2.out]; rfl, HE.out⟩⟩
 ·have HQ := Aside0.mk hq
  rw [hq, endOf_not (by decide)]
  have HE := Aside0.mk (WrEnd.from (Nat.le_trans H.out.base (Nat.le_of_lt H.out.lt)) (HB.out _) hE)
  clear hq hE
  unfold wrongE
  go_wp2
  unfold bodyPost
  exact ⟨rfl, Or.inr ⟨by rw [show xs.length + 5 = xs.length + (1 + 4) by omega, HQ.out]; decide, rfl, HE.out⟩⟩
end Go.Proofs.YtlkaffbgekbcfaaDoor.Pr
end
section
namespace Go.Proofs.YtlkaffbgekbcfaaDoor.Pr
open Go.RowKit Go.Proofs.YtlkaffbgekbcfaaDoorW.PrintWords Go.Proofs.YtlkaffbgekbcfaaDoorW.PrintLast Go.Proofs.YtlkaffbgekbcfaaDoorW.PrintMore
theorem foldW_len {α : Type} {f : α → List Int → Option (List Int × Int)} (hf : ∀ x xs zs, f x xs = some (zs, 0) → zs.length ≤ 1048576) : ∀ (l : List α) (xs zs : List Int), xs.length ≤ 1048576 → foldW f l xs = some (zs, 0) → zs.length ≤ 1048576
 | [], xs, zs, hx, h => by simp only [foldW, Option.some.injEq, Prod.mk.injEq] at h; rw [← h.1]; exact hx
 | x :: l, xs, zs, hx, h => by
  simp only [foldW] at h
  obtain ⟨⟨y, e⟩, h1, h2⟩ := Option.bind_eq_some_iff.mp h
  by_cases he : e = 0
  ·subst he
   rw [if_pos rfl] at h2
   exact foldW_len hf l y zs (hf _ _ _ h1) h2
  ·rw [if_neg he] at h2
   simp only [Option.some.injEq, Prod.mk.injEq] at h2
   exact absurd h2.2 he
theorem wrCell_len : ∀ (k : Nat) (c : S26) (deep : Nat) (xs zs : List Int), wrCell k c deep xs = some (zs, 0) → zs.length ≤ 1048576
 | 0, c, deep, xs, zs, h => by simp [wrCell] at h
 | k + 1, c, deep, xs, zs, h => by
  simp only [wrCell] at h
  split at h
  ·simp only [Option.some.injEq, Prod.mk.injEq] at h
   rw [← h.1, List.length_append, List.length_cons, beB_length]
   exact lookC_zero h.2
  ·split at h
   ·split at h
    ·simp at h
    ·split at h
     ·simp only [Option.some.injEq, Prod.mk.injEq] at h
      rw [← h.1]
      simp only [List.length_append, List.length_cons, beB_length, bytesOf_length]
      have := lookC_zero h.2
      omega
     ·simp at h
   ·split at h
    ·split at h
     ·simp at h
     ·split at h
      ·simp at h
      ·split at h
       ·rename_i hq
        refine foldW_len (fun x y z => wrCell_len k x (deep + 1) y z) _ _ _ ?_ h
        simp only [List.length_append, List.length_cons, beB_length]
        exact lookC_zero hq
       ·simp at h
    ·simp at h
theorem drop_rd (L : List S26) (I : Int) (h0 : 0 ≤ I) (h1 : I < (L.length : Int)) : L.drop I.toNat = rd_T26 L I :: L.drop (I + 1).toNat := by
 have hi : I.toNat < L.length := by omega
 rw [List.drop_eq_getElem_cons hi, show (I + 1).toNat = I.toNat + 1 by omega]
 congr 1
 unfold rd_T26
 rw [List.getD_eq_getElem?_getD, List.getElem?_eq_getElem hi]
 rfl
set_option maxHeartbeats 1600000 in
set_option maxRecDepth 100000 in
theorem cell_deep (w0 : World) (p : Nat) (N : Int) (S : ByteArray) (A3 : Option Addr) (n3 c3 : Nat) (deep : Nat) (w : World) (v : Value) (xs : List Int) (h : Wr w0.heap.size p w v xs) (hd : 64 < deep + 1) (hd2 : deep ≤ 64) :
  Calls Tryd.prog 46 #[.pointer (some ⟨p, 0, none⟩), .agg #[.int .i64 2, .int .u64 N, .string S, .slice A3 n3 c3], .int .i64 deep] w fun e w' =>
   e = endOf 2 ∧ WrEnd w0.heap.size p w v w' xs := by
 have hbel : ∀ o, Below w.heap.size w (w.alloc o) := fun o => (Below.refl _ _).alloc (Nat.le_refl _) _
 have HE : Aside0 (∀ o, WrEnd w0.heap.size p w v (w.alloc o) xs) := ⟨fun o => WrEnd.from (Nat.le_trans h.base (Nat.le_of_lt h.lt)) (hbel o) (WrEnd.refl (h.below (hbel o)))⟩
 have b0 : decide (64 < (deep : Int) + 1) = true := decide_eq_true (by omega)
 clear h hbel hd
 go_enter Tryd.func46, Tryd.ntmps46
 go_wp2_with (go_at_call 58; refine (give_calls _ _).mono ?_; rintro e w' ⟨rfl, rfl⟩)
 unfold bodyPost
 exact ⟨rfl, by rw [endOf_not (by decide)]; rfl, HE.out _⟩
set_option maxHeartbeats 1600000 in
set_option maxRecDepth 100000 in
theorem cell_wide (w0 : World) (p : Nat) (N : Int) (S : ByteArray) (A3 : Option Addr) (n3 c3 : Nat) (deep : Nat) (w : World) (v : Value) (xs : List Int) (h : Wr w0.heap.size p w v xs) (hd : ¬ 64 < deep + 1) (hn : 1048576 < n3) :
  Calls Tryd.prog 46 #[.pointer (some ⟨p, 0, none⟩), .agg #[.int .i64 2, .int .u64 N, .string S, .slice A3 n3 c3], .int .i64 deep] w fun e w' =>
   e = endOf 2 ∧ WrEnd w0.heap.size p w v w' xs := by
 have hbel : ∀ o, Below w.heap.size w (w.alloc o) := fun o => (Below.refl _ _).alloc (Nat.le_refl _) _
 have HE : Aside0 (∀ o, WrEnd w0.heap.size p w v (w.alloc o) xs) := ⟨fun o => WrEnd.from (Nat.le_trans h.base (Nat.le_of_lt h.lt)) (hbel o) (WrEnd.refl (h.below (hbel o)))⟩
 have b0 : decide (64 < (deep : Int) + 1) = false := decide_eq_false (by omega)
 have b1 : decide (1048576 < (n3 : Int)) = true := decide_eq_true (by omega)
 have b2 : decide (1048576 < n3) = true := decide_eq_true (by omega)
 have hd3 : deep ≤ 64 := by omega
 clear h hbel hd hn
 go_enter Tryd.func46, Tryd.ntmps46
 go_wp2_with (go_at_call 58; refine (give_calls _ _).mono ?_; rintro e w' ⟨rfl, rfl⟩)
 unfold bodyPost
 exact ⟨rfl, by rw [endOf_not (by decide)]; rfl, HE.out _⟩
set_option maxHeartbeats 1600000 in
set_option maxRecDepth 100000 in
theorem cell_list (w0 : World) (p : Nat) (k : Nat) (ih : ∀ (c : S26) (A3 : Option Addr) (c3 deep : Nat) (w : World) (v : Value) (xs zs : List Int) (e0 D : Int), Kd.C k26 w0 A3 c.f3.length c.f3 → c.f3.length ≤ c3 → Below w0.heap.size w0 w → Wr w0.heap.size p w v xs →
   xs.length ≤ 1048576 → deep ≤ 64 → D = (deep : Int) → wrCell k c deep xs = some (zs, e0) →
   Calls Tryd.prog 46 #[.pointer (some ⟨p, 0, none⟩), .agg #[.int .i64 c.f0, .int .u64 c.f1, .string c.f2, .slice A3 c.f3.length c3], .int .i64 D] w fun e w' => e = endOf e0 ∧ WrEnd w0.heap.size p w v w' zs)
  (N : Int) (S : ByteArray) (L : List S26) (A3 : Option Addr) (c3 : Nat) (deep : Nat) (w : World) (v : Value) (xs zs : List Int) (e0 : Int) (hr : Kd.C k26 w0 A3 L.length L) (hc3 : L.length ≤ c3) (hbw : Below w0.heap.size w0 w) (h : Wr w0.heap.size p w v xs) (hl : xs.length ≤ 1048576)
  (hd : ¬ 64 < deep + 1) (hn : ¬ 1048576 < L.length)
  (hz : (if lookC (xs.length + 5) = 0 then foldW (fun x ys => wrCell k x (deep + 1) ys) L (xs ++ (2 :: beB L.length 4)) else some (xs ++ (2 :: beB L.length 4), 2)) = some (zs, e0)) :
  Calls Tryd.prog 46 #[.pointer (some ⟨p, 0, none⟩), .agg #[.int .i64 2, .int .u64 N, .string S, .slice A3 L.length c3], .int .i64 deep] w fun e w' =>
   e = endOf e0 ∧ WrEnd w0.heap.size p w v w' zs := by
 have hbel : ∀ o, Below w.heap.size w (w.alloc o) := fun o => (Below.refl _ _).alloc (Nat.le_refl _) _
 have H := Aside0.mk h
 have HB := Aside0.mk hbel
 have HR := Aside0.mk hr
 have HZ := Aside0.mk hz
 have HBW := Aside0.mk hbw
 have IH := Aside0.mk ih
 have b0 : decide (64 < (deep : Int) + 1) = false := decide_eq_false (by omega)
 have b1 : decide (1048576 < (L.length : Int)) = false := decide_eq_false (by omega)
 have b2 : decide (1048576 < L.length) = false := decide_eq_false (by omega)
 have HW : Aside0 (IntKind.u64.wrap (L.length : Int) = (L.length : Int)) := ⟨IntWalk.u64_in _ (by omega)⟩
 have hd3 : deep ≤ 64 := by omega
 have HN := Aside0.mk hn
 have HD64 : Aside0 (deep + 1 ≤ 64) := ⟨by omega⟩
 clear h hbel hd hn hr hz hbw ih
 go_enter Tryd.func46, Tryd.ntmps46
 go_wp2_with fail
 rw [HW.out]
 refine (put_calls (H.out.below (HB.out _)) hl 2 _ 4 (by omega)).mono ?_
 rintro e w2 ⟨rfl, hE⟩
 rw [lookE_eq]
 rcases lookC_or (xs.length + (1 + 4)) with hq | hq
 ·have HQ := Aside0.mk hq
  rw [hq, endOf_zero]
  have hx5 := lookC_zero hq
  clear hq
  obtain ⟨v1, hw1, ho1, hb1, hk1⟩ := hE
  have hbox := H.out.far hk1
  have hc23 : w2.cell? ⟨w.heap.size, 3, none⟩ = some (.slice A3 L.length c3) := (blk_cell hbox 3).trans rfl
  have HS : Aside0 (∃ v1 ys, Wr w0.heap.size p w2 v1 ys ∧ ys.length ≤ 1048576 ∧ ((v1.ownBlock = v.ownBlock ∨ ∃ b, v1.ownBlock = some b ∧ w.heap.size ≤ b) ∧ Below w0.heap.size w w2 ∧ Kept w w2 (fun k => k = p ∨ some k = v.ownBlock)) ∧ foldW (fun x ys => wrCell k x (deep + 1) ys) L ys = some (zs, e0)) := by
   obtain ⟨v3, k1, k2, k3, k4⟩ := WrEnd.from (Nat.le_trans H.out.base (Nat.le_of_lt H.out.lt)) (HB.out _) ⟨_, hw1, ho1, hb1, hk1⟩
   have hzz := HZ.out
   rw [show xs.length + 5 = xs.length + (1 + 4) by omega, if_pos HQ.out] at hzz
   refine ⟨v3, _, k1, ?_, ⟨k2, k3, k4⟩, hzz⟩
   simp only [List.length_append, List.length_cons, beB_length]
   omega
  clear hw1 ho1 hb1 hk1 hbox HZ HQ HW
  have hn := HN.out
  go_wp2_with fail
  go_loopg [70] L.length (fun kq s70 wr => ∃ I : Int, s70 = .int .i64 I ∧ Aside0 (0 ≤ I ∧ I ≤ L.length ∧ (L.length : Int) - I = kq) ∧ Aside0 (∃ v1 ys, Wr w0.heap.size p wr v1 ys ∧ ys.length ≤ 1048576 ∧ ((v1.ownBlock = v.ownBlock ∨ ∃ b, v1.ownBlock = some b ∧ w.heap.size ≤ b) ∧ Below w0.heap.size w wr ∧ Kept w wr (fun k => k = p ∨ some k = v.ownBlock)) ∧ foldW (fun x ys => wrCell k x (deep + 1) ys) (L.drop I.toNat) ys = some (zs, e0)))
  case atStart => exact ⟨0, rfl, ⟨by omega, by omega, by omega⟩, HS⟩
  case round =>
   clear HS hc23
   obtain ⟨I, rfl, HI, HA⟩ := hrel
   obtain ⟨v1, ys, hw1, hyl, hst, hf⟩ := HA.out
   have H1 := Aside0.mk hw1
   have HST := Aside0.mk hst
   have HF := Aside0.mk hf
   clear HA hw1 hst hf
   by_cases hlt : I < (L.length : Int)
   ·have p0 : (0 ≤ I) = True := eq_true HI.out.1
    have q0 : (I < (L.length : Int)) = True := eq_true hlt
    have d0 : decide (I < (L.length : Int)) = true := decide_eq_true hlt
    obtain ⟨ad, Ax, cx, eA, hx0, hx1, hx2, hx3, hlx, hix⟩ := at_T26 HR.out I HI.out.1 hlt
    have hbr : Below w0.heap.size w0 wr := HBW.out.trans HST.out.2.1
    replace hx0 := (hbr.cell (World.block_lt_of_cell? w0 _ hx0)).trans hx0
    replace hx1 := (hbr.cell (World.block_lt_of_cell? w0 _ hx1)).trans hx1
    replace hx2 := (hbr.cell (World.block_lt_of_cell? w0 _ hx2)).trans hx2
    replace hx3 := (hbr.cell (World.block_lt_of_cell? w0 _ hx3)).trans hx3
    have HBR := Aside0.mk hbr
    have HIX := Aside0.mk hix
    have HLX := Aside0.mk hlx
    clear hbr hix hlx hlt
    cases eA
    have hI0 := HI.out.1
    have hI1 : I < (L.length : Int) := of_eq_true q0
    have hf := HF.out
    rw [drop_rd L I hI0 hI1, foldW] at hf
    obtain ⟨⟨ys2, e2⟩, hx, hf2⟩ := Option.bind_eq_some_iff.mp hf
    have HX := Aside0.mk hx
    have HF2 := Aside0.mk hf2
    have hlen2 : Aside0 (e2 = 0 → ys2.length ≤ 1048576) := ⟨fun e => wrCell_len k _ _ _ _ (by rw [← e]; exact hx)⟩
    clear hf hx hf2 HF hI0 hI1
    go_wp2_with fail
    have hwb : Below wr.heap.size wr (wr.alloc (.cells #[.int .i64 (rd_T26 L I).f0, .int .u64 (rd_T26 L I).f1, .string (rd_T26 L I).f2, .slice Ax (rd_T26 L I).f3.length cx] 26)) := (Below.refl _ _).alloc (Nat.le_refl _) _
    refine (IH.out (rd_T26 L I) Ax cx (deep + 1) _ v1 ys ys2 e2 _ HIX.out HLX.out (HBR.out.trans (hwb.mono (Nat.le_trans H1.out.base (Nat.le_of_lt H1.out.lt)))) (H1.out.below hwb) hyl HD64.out (by simp) HX.out).mono ?_
    rintro e w3 ⟨rfl, hE⟩
    obtain ⟨v3, hw3, ho3, hb3, hk3⟩ := WrEnd.from (Nat.le_trans H1.out.base (Nat.le_of_lt H1.out.lt)) hwb hE
    have hst3 := wr_chain HST.out ⟨ho3, hb3, hk3⟩
    have HST3 := Aside0.mk hst3
    have HW3 := Aside0.mk hw3
    clear hE hw3 ho3 hb3 hk3 hwb hst3 hx0 hx1 hx2 hx3
    by_cases he2 : e2 = 0
    ·have HE2 := Aside0.mk he2
     rw [he2, endOf_zero]
     clear he2
     have hw1' : wrap64 (I + 1) = I + 1 := by unfold wrap64; have := HI.out.1; have := HI.out.2.1; omega
     have HW1' := Aside0.mk hw1'
     clear hw1'
     go_wp2
     go_roundg (L.length - (I + 1).toNat)
     case measure => have := HI.out; have := of_eq_true q0; omega
     case rel =>
      have hq := of_eq_true q0
      have hf2 := HF2.out
      rw [if_pos HE2.out] at hf2
      have hi0 := HI.out.1
      have g0 : 0 ≤ I + 1 := by omega
      have g1 : I + 1 ≤ (L.length : Int) := by omega
      have g2 : (L.length : Int) - (I + 1) = ((L.length - (I + 1).toNat : Nat) : Int) := by omega
      refine ⟨I + 1, ?_, ⟨g0, g1, g2⟩, ⟨v3, ys2, HW3.out, hlen2.out HE2.out, HST3.out, hf2⟩⟩
      first | rfl | (congr 1; exact HW1'.out) | (rw [HW1'.out])
    ·have HE2 := Aside0.mk he2
     rw [endOf_not he2]
     clear he2
     unfold wrongE
     go_wp2
     unfold bodyPost
     have hf2 := HF2.out
     rw [if_neg HE2.out] at hf2
     simp only [Option.some.injEq, Prod.mk.injEq] at hf2
     obtain ⟨rfl, rfl⟩ := hf2
     exact ⟨rfl, by rw [endOf_not HE2.out]; rfl, ⟨v3, HW3.out, HST3.out⟩⟩
   ·have d0 : decide (I < (L.length : Int)) = false := decide_eq_false hlt
    have hf := HF.out
    rw [List.drop_eq_nil_of_le (by omega), foldW] at hf
    simp only [Option.some.injEq, Prod.mk.injEq] at hf
    obtain ⟨rfl, rfl⟩ := hf
    clear hlt
    go_wp2
    go_end0
    exact ⟨rfl, ⟨v1, H1.out, HST.out⟩⟩
 ·have HQ := Aside0.mk hq
  rw [hq, endOf_not (by decide)]
  have HE := Aside0.mk (WrEnd.from (Nat.le_trans H.out.base (Nat.le_of_lt H.out.lt)) (HB.out _) hE)
  clear hq hE
  unfold wrongE
  go_wp2
  unfold bodyPost
  have hzz := HZ.out
  rw [show xs.length + 5 = xs.length + (1 + 4) by omega, if_neg (by rw [HQ.out]; decide)] at hzz
  simp only [Option.some.injEq, Prod.mk.injEq] at hzz
  obtain ⟨rfl, rfl⟩ := hzz
  exact ⟨rfl, rfl, HE.out⟩
theorem cell_calls (w0 : World) (p : Nat) : ∀ (k : Nat) (c : S26) (A3 : Option Addr) (c3 deep : Nat) (w : World) (v : Value) (xs zs : List Int) (e0 D : Int), Kd.C k26 w0 A3 c.f3.length c.f3 → c.f3.length ≤ c3 → Below w0.heap.size w0 w → Wr w0.heap.size p w v xs →
   xs.length ≤ 1048576 → deep ≤ 64 → D = (deep : Int) → wrCell k c deep xs = some (zs, e0) →
   Calls Tryd.prog 46 #[.pointer (some ⟨p, 0, none⟩), .agg #[.int .i64 c.f0, .int .u64 c.f1, .string c.f2, .slice A3 c.f3.length c3], .int .i64 D] w fun e w' => e = endOf e0 ∧ WrEnd w0.heap.size p w v w' zs
 | 0, c, A3, c3, deep, w, v, xs, zs, e0, D, hr, hc3, hbw, h, hl, hd, hD, hz => by simp [wrCell] at hz
 | k + 1, ⟨K, N, S, L⟩, A3, c3, deep, w, v, xs, zs, e0, D, hr, hc3, hbw, h, hl, hd, hD, hz => by
  subst hD
  simp only [wrCell] at hz
  by_cases h0 : K = 0
  ·subst h0
   rw [if_pos rfl] at hz
   simp only [Option.some.injEq, Prod.mk.injEq] at hz
   obtain ⟨rfl, rfl⟩ := hz
   exact cell_number w0 p N S (.slice A3 L.length c3) deep w v xs h hl rfl
  ·rw [if_neg h0] at hz
   by_cases h1 : K = 1
   ·subst h1
    rw [if_pos rfl] at hz
    by_cases hs : 1048576 < S.size
    ·rw [if_pos hs] at hz
     simp only [Option.some.injEq, Prod.mk.injEq] at hz
     obtain ⟨rfl, rfl⟩ := hz
     exact cell_long w0 p N S (.slice A3 L.length c3) deep w v xs h rfl hs
    ·rw [if_neg hs] at hz
     refine (cell_text w0 p N S (.slice A3 L.length c3) deep w v xs h hl rfl (by omega)).mono ?_
     rintro e w' (⟨h5, he, hE⟩ | ⟨h5, he, hE⟩)
     ·rw [if_pos h5] at hz
      simp only [Option.some.injEq, Prod.mk.injEq] at hz
      obtain ⟨rfl, rfl⟩ := hz
      exact ⟨he, hE⟩
     ·rw [if_neg h5] at hz
      simp only [Option.some.injEq, Prod.mk.injEq] at hz
      obtain ⟨rfl, rfl⟩ := hz
      exact ⟨he, hE⟩
   ·rw [if_neg h1] at hz
    by_cases h2 : K = 2
    ·subst h2
     rw [if_pos rfl] at hz
     by_cases hd1 : 64 < deep + 1
     ·rw [if_pos hd1] at hz
      simp only [Option.some.injEq, Prod.mk.injEq] at hz
      obtain ⟨rfl, rfl⟩ := hz
      exact cell_deep w0 p N S A3 L.length c3 deep w v xs h hd1 hd
     ·rw [if_neg hd1] at hz
      by_cases hn : 1048576 < L.length
      ·rw [if_pos hn] at hz
       simp only [Option.some.injEq, Prod.mk.injEq] at hz
       obtain ⟨rfl, rfl⟩ := hz
       exact cell_wide w0 p N S A3 L.length c3 deep w v xs h hd1 hn
      ·rw [if_neg hn] at hz
       exact cell_list w0 p k (cell_calls w0 p k) N S L A3 c3 deep w v xs zs e0 hr hc3 hbw h hl hd1 hn hz
    ·rw [if_neg h2] at hz
     simp only [Option.some.injEq, Prod.mk.injEq] at hz
     obtain ⟨rfl, rfl⟩ := hz
     exact cell_else w0 p K N S (.slice A3 L.length c3) deep w v xs h rfl h0 h1 h2
end Go.Proofs.YtlkaffbgekbcfaaDoor.Pr
end
section
namespace Go.Proofs.YtlkaffbgekbcfaaDoor.Pr
open Go.RowKit Go.Proofs.YtlkaffbgekbcfaaDoorW.PrintWords Go.Proofs.YtlkaffbgekbcfaaDoorW.PrintLast Go.Proofs.YtlkaffbgekbcfaaDoorW.PrintMore
theorem heap_at {w : World} {o : Obj} {n : Nat} (h : w.heap.size = n) : (w.alloc o).heap[n]? = some o := by subst h; exact heap_alloc_new w o
theorem heap_under {w : World} {o : Obj} {n : Nat} (h : n < w.heap.size) : (w.alloc o).heap[n]? = w.heap[n]? := (below_alloc (Below.refl _ _) o).block n h
theorem V_clip {α : Type} {d : Kd α} {e base n c : Nat} {W : World} {ok : Nat → Prop} {A : Option Addr} {xs : List α} (h : Kd.V d e W base ok (.slice A n c) xs) : Kd.V d e W base ok (.slice A n n) xs := by
 obtain ⟨hn, _, hf⟩ := Kd.V_at h
 subst hn
 exact Kd.V_mk (Nat.le_refl _) hf
theorem own_ne {w : World} {B e size n g t : Nat} {v : Value} {xs : List Value} {cells : Array Value} (h : w.ownsRow B e size v n xs) (hb : w.heap[g]? = some (.cells cells t (0, 0))) (hne : e ≠ t) : v.ownBlock ≠ some g := by
 intro hk
 rcases h.2 with ⟨rfl, _⟩ | ⟨g', cap, cur, rfl, _, hh, _⟩
 ·simp [Value.ownBlock] at hk
 ·have : g' = g := by simpa [Value.ownBlock] using hk
  subst this
  rw [hb] at hh
  injection hh with hh
  injection hh with _ ht
  exact hne ht.symm
theorem own_le {w : World} {B e size n c : Nat} {A : Option Addr} {xs : List Value} (h : w.ownsRow B e size (.slice A n c) n xs) : n ≤ c ∧ c ≤ 9223372036854775807 := by
 rcases h.2 with ⟨hv, h0⟩ | ⟨g, cap, cur, hv, _, _, h1, h2, _⟩
 ·injection hv with _ h1 h2; subst h2; omega
 ·injection hv with _ _ h3; subst h3; simp only [maxLen] at h2; omega
set_option maxHeartbeats 1600000 in
theorem clip_calls (A : Option Addr) (n c : Nat) (w : World) (h : n ≤ c ∧ c ≤ 9223372036854775807) : Calls Tryd.prog 47 #[.slice A n c] w fun e w' => e = .returned (.slice A n n) ∧ w = w' := by
 have h1 : ((n : Int) ≤ (c : Int)) := by omega
 have h2 := h.1
 have h3 := h.2
 have h4 : (0 : Int) ≤ (n : Int) := by omega
 clear h
 go_enter Tryd.func47, Tryd.ntmps47
 go_wp2
 go_ret
 exact ⟨rfl, rfl⟩
def code_Encode.f (k : Nat) (a0 a1 : Int) (a2 : ByteArray) (l3 : List S26) : Option (List Int × Int) := (wrCell k ⟨a0, a1, a2, l3⟩ 0 []).map fun r => if r.2 = 0 then (r.1, 0) else ([], r.2)
set_option maxHeartbeats 1600000 in
set_option maxRecDepth 100000 in
theorem code_Encode.calls (k : Nat) (a0 a1 : Int) (a2 : ByteArray) (A3 : Option Addr) (c3 : Nat) (l3 : List S26) (r1 : List Int) (r2 : Int) (w : World) (hr3 : Kd.C k26 w A3 l3.length l3) (hc3 : l3.length ≤ c3) (h : code_Encode.f k a0 a1 a2 l3 = some (r1, r2)) :
  Calls Tryd.prog 27 #[.agg #[.int .i64 a0, .int .u64 a1, .string a2, .slice A3 l3.length c3]] w fun e w' => ∃ v0_ : Value, e = .returned (.tuple #[v0_, .int .i64 r2]) ∧ Kd.V (Kd.int .u8) 5 w' w.heap.size (fun k_ => (w.heap.size ≤ k_)) v0_ r1 ∧ Below w.heap.size w w' := by
 unfold code_Encode.f at h
 obtain ⟨⟨zs, e0⟩, hz, hr⟩ := Option.map_eq_some_iff.1 h
 have HZ := Aside0.mk hz
 have HC := Aside0.mk hr3
 have HR := Aside0.mk hr
 clear h hz hr hr3
 have hmf : ∀ (fn : Fn) (first cap : Array Value) (w : World), (Instr.makeFunc fn first cap).run Tryd.prog w = .ok (.func fn first cap) w := fun _ _ _ _ => rfl
 go_enter_defers Tryd.func27, Tryd.ntmps27
 go_wp2_with fail
 have hW1 : Below w.heap.size w (((w.alloc (.cells #[.int .i64 a0, .int .u64 a1, .string a2, .slice A3 l3.length c3] 26)).alloc (.cells #[.int .i64 0] 32)).alloc (.cells #[.slice none 0 0] 76)) := by
  repeat (first | exact Below.refl _ _ | apply below_alloc)
 obtain ⟨W, hWe⟩ : ∃ W, W = ((w.alloc (.cells #[.int .i64 a0, .int .u64 a1, .string a2, .slice A3 l3.length c3] 26)).alloc (.cells #[.int .i64 0] 32)).alloc (.cells #[.slice none 0 0] 76) := ⟨_, rfl⟩
 have hsz : W.heap.size = w.heap.size + 1 + 1 + 1 := by rw [hWe]; simp
 have hp : W.heap[w.heap.size + 1 + 1]? = some (.cells #[.slice none 0 0] 76 (0, 0)) := by
  rw [hWe]; exact heap_at (by simp)
 have hq : W.heap[w.heap.size + 1]? = some (.cells #[.int .i64 0] 32 (0, 0)) := by
  rw [hWe]; exact (heap_under (by simp)).trans (heap_at (by simp))
 rw [← hWe] at hW1 ⊢
 clear hWe
 have hWr : Wr w.heap.size (w.heap.size + 1 + 1) W (.slice none 0 0) [] := ⟨hp, own_nil _ _ _ _, by omega⟩
 refine (cell_calls w (w.heap.size + 1 + 1) k ⟨a0, a1, a2, l3⟩ A3 c3 0 W _ [] zs e0 0 HC.out hc3 hW1 hWr (by simp) (by omega) rfl HZ.out).mono ?_
 rintro e w2 ⟨rfl, v1, hw1, ho1, hb1, hk1⟩
 have hq2 : w2.heap[w.heap.size + 1]? = some (.cells #[.int .i64 0] 32 (0, 0)) := blk_kept hq hk1 (by simp [Value.ownBlock])
 have hce : w2.cell? ⟨w.heap.size + 1, 0, none⟩ = some (.int .i64 0) := (blk_cell hq2 0).trans rfl
 have hze : w2.frozen? ⟨w.heap.size + 1, 0, none⟩ = false := blk_frozen hq2 0
 have HB2 := Aside0.mk (hW1.trans hb1)
 have hrr := HR.out
 by_cases he : e0 = 0
 ·rw [he, endOf_zero]
  rw [if_pos he] at hrr
  simp only [Prod.mk.injEq] at hrr
  obtain ⟨rfl, rfl⟩ := hrr
  obtain ⟨A1, c1, hv1⟩ := own_slice hw1.own
  have hcp : w2.cell? ⟨w.heap.size + 1 + 1, 0, none⟩ = some (.slice A1 zs.length c1) := by rw [← hv1]; exact (blk_cell hw1.blk 0).trans rfl
  subst hv1
  have HO := Aside0.mk hw1.own
  have HQ2 := Aside0.mk hq2
  have HE := Aside0.mk he
  clear he hw1 ho1 hb1 hk1 HR HZ HC hp hq hq2 hWr hW1 hsz
  go_wp2_with (go_at_call 47; refine (clip_calls _ _ _ _ (own_le HO.out)).mono ?_; rintro e w' ⟨rfl, rfl⟩)
  refine leaves_cons (f := 45) (args := #[.pointer (some ⟨w.heap.size + 1, 0, none⟩)]) (by simp) (by simp [go_sem]) ?_
  refine (caught_idle _ _).mono ?_
  rintro e u' w'' ⟨rfl, rfl, rfl⟩
  refine ⟨.tuple #[.slice A1 zs.length zs.length, .int .i64 0], ?_, _, rfl, ?_, ?_⟩
  ·simp [results, Tryd.results27, go_sem, hce]
  ·have hR : Kd.R (Kd.int .u8) 5 w2 w.heap.size (fun k => some k = (Value.slice A1 zs.length c1).ownBlock) (.slice A1 zs.length c1) zs := Kd.R_tight rfl (Kd.R_of_own (ok := fun _ => True) HO.out (fun _ _ => trivial))
   have hV := V_clip (Kd.V_mono (ok' := fun k => w.heap.size ≤ k ∧ k ≠ w.heap.size + 1) (Kd.R_V (base' := w.heap.size) hR) (fun k hk => ⟨own_base HO.out k hk.symm, fun e => own_ne HO.out HQ2.out (by decide) (by rw [← hk, e])⟩))
   exact Kd.V_mono (Kd.V_far (p := ⟨w.heap.size + 1, 0, none⟩) hV (fun _ hk => hk.2) _) (fun _ hk => hk.1)
  ·exact below_set HB2.out (by omega) 
 ·rw [endOf_not he]
  rw [if_neg he] at hrr
  simp only [Prod.mk.injEq] at hrr
  obtain ⟨rfl, rfl⟩ := hrr
  clear he hw1 ho1 hb1 hk1 HR HZ HC hp hq hq2 hWr hW1 hsz
  unfold wrongE
  go_wp2
  unfold wrongV
  refine leaves_cons (f := 45) (args := #[.pointer (some ⟨w.heap.size + 1, 0, none⟩)]) (by simp) (by simp [go_sem]) ?_
  refine (caught_panicking _ _ 0 e0 _ rfl [] _ hce hze).mono ?_
  rintro e u' w'' ⟨rfl, rfl, hb⟩
  have hs : (w2.setCell ⟨w.heap.size + 1, 0, none⟩ (.int .i64 e0)).heap.size = w2.heap.size := by simp [World.setCell]
  rw [← hs] at hb
  have hc3 : w''.cell? ⟨w.heap.size + 1, 0, none⟩ = some (.int .i64 e0) := by
   refine pw_cell_below hb ?_
   simp [go_sem, hce]
  refine ⟨.tuple #[.slice none 0 0, .int .i64 e0], ?_, _, rfl, Kd.V_nil _ _ _ _ _, ?_⟩
  ·simp [results, Tryd.results27, go_sem, hc3]
  ·exact (below_set HB2.out (by omega)).trans (hb.mono (by rw [hs]; exact HB2.out.size))
theorem foldW_mono {α : Type} {f g : α → List Int → Option (List Int × Int)} (hf : ∀ x ys r, f x ys = some r → g x ys = some r) : ∀ (l : List α) (ys : List Int) (r : List Int × Int), foldW f l ys = some r → foldW g l ys = some r
 | [], ys, r, h => h
 | x :: l, ys, r, h => by
  simp only [foldW] at h ⊢
  obtain ⟨s, h1, h2⟩ := Option.bind_eq_some_iff.mp h
  rw [hf _ _ _ h1]
  simp only [Option.bind_some]
  split
  ·rename_i he
   rw [if_pos he] at h2
   exact foldW_mono hf l _ r h2
  ·rename_i he
   rw [if_neg he] at h2
   exact h2
theorem wrCell_mono : ∀ (k : Nat) (c : S26) (deep : Nat) (xs : List Int) (r : List Int × Int), wrCell k c deep xs = some r → wrCell (k + 1) c deep xs = some r
 | 0, c, deep, xs, r, h => by simp [wrCell] at h
 | k + 1, c, deep, xs, r, h => by
  rw [wrCell] at h ⊢
  have hf : ∀ (l : List S26) (ys : List Int) (r : List Int × Int), foldW (fun x ys => wrCell k x (deep + 1) ys) l ys = some r → foldW (fun x ys => wrCell (k + 1) x (deep + 1) ys) l ys = some r := foldW_mono (fun x ys r hx => wrCell_mono k x (deep + 1) ys r hx)
  by_cases h0 : c.f0 = 0
  ·rw [if_pos h0] at h ⊢; exact h
  ·rw [if_neg h0] at h ⊢
   by_cases h1 : c.f0 = 1
   ·rw [if_pos h1] at h ⊢; exact h
   ·rw [if_neg h1] at h ⊢
    by_cases h2 : c.f0 = 2
    ·rw [if_pos h2] at h ⊢
     by_cases h3 : 64 < deep + 1
     ·rw [if_pos h3] at h ⊢; exact h
     ·rw [if_neg h3] at h ⊢
      by_cases h4 : 1048576 < c.f3.length
      ·rw [if_pos h4] at h ⊢; exact h
      ·rw [if_neg h4] at h ⊢
       by_cases h5 : lookC (xs.length + 5) = 0
       ·rw [if_pos h5] at h ⊢; exact hf _ _ _ h
       ·rw [if_neg h5] at h ⊢; exact h
    ·rw [if_neg h2] at h ⊢; exact h
theorem code_Encode.mono : ∀ a0 a1 a2 a3 k, LeO (code_Encode.f k a0 a1 a2 a3) (code_Encode.f (k + 1) a0 a1 a2 a3) := by
 intro a0 a1 a2 a3 k r h
 unfold code_Encode.f at h ⊢
 obtain ⟨z, hz, hr⟩ := Option.map_eq_some_iff.1 h
 rw [wrCell_mono _ _ _ _ _ hz]
 simp [hr]
end Go.Proofs.YtlkaffbgekbcfaaDoor.Pr
end
section
namespace Go.Proofs.YtlkaffbgekbcfaaDoor.Pr
open Go.RowKit Go.Proofs.YtlkaffbgekbcfaaDoorW.PrintWords Go.Proofs.YtlkaffbgekbcfaaDoorW.PrintLast Go.Proofs.YtlkaffbgekbcfaaDoorW.PrintMore
structure Rd (w0 : World) (p : Nat) (w : World) (bs : List Int) : Prop where
 blk : ∃ A c, w.heap[p]? = some (.cells #[.slice A bs.length c] 85 (0, 0)) ∧ bs.length ≤ c ∧ Kd.C (Kd.int .u8) w0 A bs.length bs
 base : w0.heap.size ≤ p
 frm : Below w0.heap.size w0 w
theorem Rd.lt {w0 w : World} {p : Nat} {bs : List Int} (h : Rd w0 p w bs) : p < w.heap.size := by
 obtain ⟨A, c, hb, _⟩ := h.blk
 exact (Array.getElem?_eq_some_iff.1 hb).1
structure RdEnd (w0 : World) (p : Nat) (w w' : World) (bs : List Int) : Prop where
 rd : Rd w0 p w' bs
 below : Below w0.heap.size w w'
 kept : Kept w w' (fun k => k = p)
theorem RdEnd.refl {w0 w : World} {p : Nat} {bs : List Int} (h : Rd w0 p w bs) : RdEnd w0 p w w bs := ⟨h, Below.refl _ _, Kept.refl _ _⟩
theorem RdEnd.trans {w0 w w1 w2 : World} {p : Nat} {bs bs' : List Int} (h : RdEnd w0 p w w1 bs) (k : RdEnd w0 p w1 w2 bs') : RdEnd w0 p w w2 bs' := ⟨k.rd, h.below.trans k.below, h.kept.then_ k.kept (fun _ h => .inl h)⟩
theorem RdEnd.from {w0 w w1 w2 : World} {p : Nat} {bs : List Int} (hB : w0.heap.size ≤ w.heap.size) (hb : Below w.heap.size w w1) (k : RdEnd w0 p w1 w2 bs) : RdEnd w0 p w w2 bs := ⟨k.rd, (hb.mono hB).trans k.below, (Kept.of_below hb _).then_ k.kept (fun _ h => .inl h)⟩
theorem Rd.below {w0 w w1 : World} {p : Nat} {bs : List Int} (h : Rd w0 p w bs) (hb : Below w.heap.size w w1) : Rd w0 p w1 bs := by
 obtain ⟨A, c, h1, h2⟩ := h.blk
 exact ⟨⟨A, c, (hb.block p h.lt).trans h1, h2⟩, h.base, h.frm.trans (hb.mono (Nat.le_trans h.base (Nat.le_of_lt h.lt)))⟩
theorem Rd.top {w0 w : World} {p : Nat} {bs : List Int} (h : Rd w0 p w bs) : w0.heap.size ≤ w.heap.size := Nat.le_trans h.base (Nat.le_of_lt h.lt)
theorem Rd.max {w0 w : World} {p : Nat} {bs : List Int} (h : Rd w0 p w bs) : bs.length ≤ 9223372036854775807 := by
 obtain ⟨A, c, _, _, h2⟩ := h.blk
 exact h2.2.1
theorem Rd.stored {w0 w : World} {p : Nat} {bs bs' : List Int} {A : Option Addr} {c : Nat} (h : Rd w0 p w bs) (hc : bs'.length ≤ c) (hC : Kd.C (Kd.int .u8) w0 A bs'.length bs') : RdEnd w0 p w (w.setCell ⟨p, 0, none⟩ (.slice A bs'.length c)) bs' := by
 obtain ⟨A0, c0, h1, h2, h3⟩ := h.blk
 refine ⟨⟨⟨A, c, ?_, hc, hC⟩, h.base, h.frm.setCell h.base _⟩, (Below.refl _ _).setCell h.base _, (Kept.refl w (fun k => k = p)).setCell (p := ⟨p, 0, none⟩) (.inl rfl) _⟩
 unfold World.setCell
 simp only [Array.getElem?_modify, if_pos, h1]
 rfl
def TookEnd (w0 : World) (p : Nat) (w : World) (bs : List Int) (n : Int) (e : Ending) (w' : World) : Prop :=
   (n ≤ bs.length ∧ ∃ A c, e = .returned (.slice A (bs.take n.toNat).length c) ∧ (bs.take n.toNat).length ≤ c ∧ Kd.C (Kd.int .u8) w0 A (bs.take n.toNat).length (bs.take n.toNat) ∧ RdEnd w0 p w w' (bs.drop n.toNat)) ∨ ((bs.length : Int) < n ∧ e = wrongE 3 ∧ w = w')
set_option maxHeartbeats 1600000 in
set_option maxRecDepth 100000 in
theorem takes_calls {w0 w : World} {p : Nat} {bs : List Int} (h : Rd w0 p w bs) (n : Int) (hn : 0 ≤ n) :
  Calls Tryd.prog 64 #[.pointer (some ⟨p, 0, none⟩), .int .i64 n] w (TookEnd w0 p w bs n) := by
 obtain ⟨A, c, hb, hc, hC⟩ := h.blk
 have h0 : w.cell? ⟨p, 0, none⟩ = some (.slice A bs.length c) := (blk_cell hb 0).trans rfl
 have hz : w.frozen? ⟨p, 0, none⟩ = false := blk_frozen hb 0
 have hmx := h.max
 by_cases hlt : (bs.length : Int) < n
 ·have b0 : decide ((bs.length : Int) < n) = true := decide_eq_true hlt
  clear h hb hC
  go_enter Tryd.func64, Tryd.ntmps64
  go_wp2_with (go_at_call 58; refine (give_calls _ _).mono ?_; rintro e w' ⟨rfl, rfl⟩)
  unfold bodyPost
  exact ⟨rfl, Or.inr ⟨hlt, rfl, rfl⟩⟩
 ·have b0 : decide ((bs.length : Int) < n) = false := decide_eq_false hlt
  obtain ⟨i0, hi, hz0, hz1, hz2⟩ := info_parts info5
  have c1 := cut_to (P := Tryd.prog) 31 5 .i64 Tryd.underlying31 hi A bs.length c n hn (by omega) hc
  have c2 := cut_from (P := Tryd.prog) 31 5 .i64 Tryd.underlying31 hi 1 hz1 A bs.length c n hn (by omega)
  have hC1 := Kd.C_take hC (show n.toNat ≤ bs.length by omega)
  have hC2 := Kd.C_drop hC (show n.toNat ≤ bs.length by omega) hc
  have hl1 : (bs.take n.toNat).length = n.toNat := by rw [List.length_take]; omega
  have hl2 : (bs.drop n.toNat).length = bs.length - n.toNat := List.length_drop
  obtain ⟨A2, hA2⟩ : ∃ A2, A2 = (if c = n.toNat then A else Option.map (fun x => x.add (n.toNat * 1)) A) := ⟨_, rfl⟩
  rw [← hA2] at c2
  have HC1 := Aside0.mk hC1
  have HC2 : Aside0 (Kd.C (Kd.int .u8) w0 A2 (bs.drop n.toNat).length (bs.drop n.toNat)) := ⟨by rw [hA2]; exact hC2⟩
  have HL1 := Aside0.mk hl1
  have HL2 := Aside0.mk hl2
  have H := Aside0.mk h
  clear h hb hC hi hz0 hz1 hz2 hA2 hl1 hl2 hC1 hC2
  go_enter Tryd.func64, Tryd.ntmps64
  go_wp2
  go_ret
  refine Or.inl ⟨by omega, A, c, by rw [HL1.out]; rfl, by rw [HL1.out]; omega, HC1.out, ?_⟩
  rw [← HL2.out]
  exact H.out.stored (by rw [HL2.out]; omega) HC2.out
def numR : List Int → Int → Int
 | [], n => n
 | x :: xs, n => numR xs (Go.bits .or .u64 (IntKind.u64.wrap (n * 256)) (IntKind.u64.wrap x))
theorem drop_rdI (L : List Int) (I : Int) (h0 : 0 ≤ I) (h1 : I < (L.length : Int)) : L.drop I.toNat = rd L I :: L.drop (I + 1).toNat := by
 have hi : I.toNat < L.length := by omega
 rw [List.drop_eq_getElem_cons hi, show (I + 1).toNat = I.toNat + 1 by omega]
 congr 1
 unfold rd
 rw [List.getD_eq_getElem?_getD, List.getElem?_eq_getElem hi]
 rfl
def NumEnd (w0 : World) (p : Nat) (w : World) (bs : List Int) (m : Nat) (e : Ending) (w' : World) : Prop :=
 (m ≤ bs.length ∧ e = .returned (.int .u64 (numR (bs.take m) 0)) ∧ RdEnd w0 p w w' (bs.drop m)) ∨ (bs.length < m ∧ e = wrongE 3 ∧ w = w')
set_option maxHeartbeats 1600000 in
set_option maxRecDepth 100000 in
theorem number_calls {w0 w : World} {p : Nat} {bs : List Int} (h : Rd w0 p w bs) (m : Nat) (hm : m ≤ 8) :
  Calls Tryd.prog 65 #[.pointer (some ⟨p, 0, none⟩), .int .i64 m] w (NumEnd w0 p w bs m) := by
 have H := Aside0.mk h
 clear h
 go_enter Tryd.func65, Tryd.ntmps65
 go_wp2_with fail
 refine (takes_calls H.out m (by omega)).mono ?_
 rintro e w2 (⟨hle, A, c, rfl, hc, hC, hE⟩ | ⟨hlt, rfl, rfl⟩)
 ·have hl1 : (bs.take (m : Int).toNat).length = m := by rw [List.length_take]; omega
  obtain ⟨zs, hzs⟩ : ∃ zs, zs = bs.take (m : Int).toNat := ⟨_, rfl⟩
  rw [← hzs] at hc hC hl1 ⊢
  have hzl : zs.length ≤ 8 := by omega
  have HE := Aside0.mk hE
  have HC := Aside0.mk hC
  have HZ := Aside0.mk hzs
  have HLE := Aside0.mk hle
  clear hE hC hzs hle hl1
  go_wp2_with fail
  go_loopg [5, 12] zs.length (fun kq s5 s12 wr => ∃ n I : Int, s5 = .int .u64 n ∧ s12 = .int .i64 I ∧ Aside0 (0 ≤ I ∧ I ≤ zs.length ∧ (zs.length : Int) - I = kq) ∧ Aside0 (numR (zs.drop I.toNat) n = numR zs 0) ∧ wr = w2)
  case atStart => exact ⟨0, 0, rfl, rfl, ⟨by omega, by omega, by omega⟩, ⟨rfl⟩, rfl⟩
  case round =>
   obtain ⟨n, I, rfl, rfl, HI, HN, rfl⟩ := hrel
   by_cases hlt : I < (zs.length : Int)
   ·have p0 : (0 ≤ I) = True := eq_true HI.out.1
    have q0 : (I < (zs.length : Int)) = True := eq_true hlt
    have d0 : decide (I < (zs.length : Int)) = true := decide_eq_true hlt
    obtain ⟨ad, eA, hx0⟩ := Kd.at_int HC.out I HI.out.1 hlt
    replace hx0 := (HE.out.rd.frm.cell (World.block_lt_of_cell? w0 _ hx0)).trans hx0
    clear hlt
    cases eA
    go_wp2
    go_roundg (zs.length - (I + 1).toNat)
    case measure => have := HI.out; have := of_eq_true q0; omega
    case rel =>
     have hq := of_eq_true q0
     have hi0 := HI.out.1
     have g0 : 0 ≤ I + 1 := by omega
     have g1 : I + 1 ≤ (zs.length : Int) := by omega
     have g2 : (zs.length : Int) - (I + 1) = ((zs.length - (I + 1).toNat : Nat) : Int) := by omega
     have hw : wrap64 (I + 1) = I + 1 := by unfold wrap64; omega
     have hn := HN.out
     rw [drop_rdI zs I hi0 hq, numR] at hn
     exact ⟨_, I + 1, rfl, by rw [hw], ⟨g0, g1, g2⟩, ⟨hn⟩, rfl⟩
   ·have d0 : decide (I < (zs.length : Int)) = false := decide_eq_false hlt
    have hn := HN.out
    rw [List.drop_eq_nil_of_le (by omega), numR] at hn
    have HN2 := Aside0.mk hn
    clear hlt hn HN
    go_wp2
    go_ret
    refine Or.inl ⟨by have := HLE.out; omega, ?_, ?_⟩
    ·have hz := HZ.out
     rw [Int.toNat_natCast] at hz
     rw [← hz, ← HN2.out]
     rfl
    ·have he := HE.out
     rwa [Int.toNat_natCast] at he
 ·have hlt2 : bs.length < m := by omega
  clear H
  unfold wrongE
  go_wp2
  unfold bodyPost
  exact ⟨rfl, Or.inr ⟨hlt2, rfl, rfl⟩⟩
end Go.Proofs.YtlkaffbgekbcfaaDoor.Pr
end
section
namespace Go.Proofs.YtlkaffbgekbcfaaDoor.Pr
open Go.RowKit Go.Proofs.YtlkaffbgekbcfaaDoorW.PrintWords Go.Proofs.YtlkaffbgekbcfaaDoorW.PrintLast Go.Proofs.YtlkaffbgekbcfaaDoorW.PrintMore
def foldR (f : List Int → Option (S26 × List Int × Int)) : Nat → List S26 → List Int → Option (List S26 × List Int × Int)
 | 0, acc, bs => some (acc, bs, 0)
 | n + 1, acc, bs => (f bs).bind fun r => if r.2.2 = 0 then foldR f n (acc ++ [r.1]) r.2.1 else some (acc, r.2.1, r.2.2)
def rdCell : Nat → Nat → List Int → Option (S26 × List Int × Int)
 | 0, _, _ => none
 | k + 1, deep, [] => some (z26, [], 3)
 | k + 1, deep, b :: bs =>
  if wrap64 b = 0 then
   if bs.length < 8 then some (z26, bs, 3) else some (⟨wrap64 b, numR (bs.take 8) 0, ⟨#[]⟩, []⟩, bs.drop 8, 0)
  else if wrap64 b = 1 then
   if bs.length < 4 then some (z26, bs, 3)
   else if 0 ≤ wrap64 (numR (bs.take 4) 0) then
    if ((bs.drop 4).length : Int) < wrap64 (numR (bs.take 4) 0) then some (z26, bs, 3)
    else some (⟨wrap64 b, 0, strOfNums ((bs.drop 4).take (wrap64 (numR (bs.take 4) 0)).toNat), []⟩, (bs.drop 4).drop (wrap64 (numR (bs.take 4) 0)).toNat, 0)
   else none
  else if wrap64 b = 2 then
   if 64 < deep + 1 then some (z26, bs, 2)
   else if bs.length < 4 then some (z26, bs, 3)
   else if ((bs.drop 4).length : Int) < wrap64 (numR (bs.take 4) 0) then some (z26, bs, 3)
   else (foldR (fun ys => rdCell k (deep + 1) ys) (wrap64 (numR (bs.take 4) 0)).toNat [] (bs.drop 4)).map fun r => (⟨wrap64 b, 0, ⟨#[]⟩, r.1⟩, r.2.1, r.2.2)
  else some (z26, bs, 4)
def CellEnd (w0 : World) (p : Nat) (w : World) (c : S26) (rest : List Int) (e0 : Int) (e : Ending) (w' : World) : Prop :=
 (e0 = 0 ∧ ∃ v3, e = .returned (.agg #[.int .i64 c.f0, .int .u64 c.f1, .string c.f2, v3]) ∧ Kd.R k26 26 w' w.heap.size (fun _ => True) v3 c.f3 ∧ RdEnd w0 p w w' rest) ∨ (e0 ≠ 0 ∧ e = wrongE e0 ∧ ∃ rest', RdEnd w0 p w w' rest')
set_option maxHeartbeats 1600000 in
set_option maxRecDepth 100000 in
theorem rcell_nil {w0 w : World} {p : Nat} (h : Rd w0 p w []) (deep : Nat) :
  Calls Tryd.prog 55 #[.pointer (some ⟨p, 0, none⟩), .int .i64 deep] w (CellEnd w0 p w z26 [] 3) := by
 have hbel : ∀ o, Below w.heap.size w (w.alloc o) := fun o => (Below.refl _ _).alloc (Nat.le_refl _) _
 have HB := Aside0.mk hbel
 have H := Aside0.mk h
 clear h hbel
 go_enter Tryd.func55, Tryd.ntmps55
 go_wp2_with fail
 refine (takes_calls (H.out.below (HB.out _)) 1 (by omega)).mono ?_
 rintro e w2 (⟨hle, _⟩ | ⟨hlt, rfl, rfl⟩)
 ·exact absurd hle (by simp)
 ·have HE := Aside0.mk (RdEnd.from H.out.top (HB.out _) (RdEnd.refl (H.out.below (HB.out (.cells #[.int .i64 0, .int .u64 0, .string ⟨#[]⟩, .slice none 0 0] 26)))))
  clear hlt
  unfold wrongE
  go_wp2
  unfold bodyPost
  exact ⟨rfl, Or.inr ⟨by decide, rfl, _, HE.out⟩⟩
theorem RdEnd.far {w0 w w1 : World} {p q j : Nat} {bs : List Int} (h : RdEnd w0 p w w1 bs) (hq : w.heap.size ≤ q) (hpq : p ≠ q) (v : Value) (h0 : w0.heap.size ≤ w.heap.size := by first | assumption | omega) : RdEnd w0 p w (w1.setCell ⟨q, j, none⟩ v) bs := by
 obtain ⟨A, c, hb, hr⟩ := h.rd.blk
 exact ⟨⟨⟨A, c, blk_far hb hpq _, hr⟩, h.rd.base, h.rd.frm.setCell (Nat.le_trans h0 hq) _⟩, h.below.setCell (Nat.le_trans h0 hq) _, h.kept.setCell (p := ⟨q, j, none⟩) (.inr hq) _⟩
theorem take1_calls {w0 w : World} {p : Nat} {b : Int} {bs : List Int} (h : Rd w0 p w (b :: bs)) :
  Calls Tryd.prog 64 #[.pointer (some ⟨p, 0, none⟩), .int .i64 1] w fun e w' => ∃ ad c, e = .returned (.slice (some ad) 1 c) ∧ 1 ≤ c ∧ w'.cell? ad = some (.int .u8 b) ∧ RdEnd w0 p w w' bs := by
 refine (takes_calls h 1 (by omega)).mono ?_
 rintro e w2 (⟨hle, A, cc, rfl, hc, hC, hE⟩ | ⟨hlt, rfl, rfl⟩)
 ·have hC1 : Kd.C (Kd.int .u8) w0 A 1 [b] := by simpa using hC
  obtain ⟨ad, eA, hx0⟩ := Kd.at_int hC1 0 (by omega) (by omega)
  replace hx0 := (hE.rd.frm.cell (World.block_lt_of_cell? w0 _ hx0)).trans hx0
  subst eA
  exact ⟨ad, cc, by simp, by simpa using hc, by simpa [rd, Addr.add] using hx0, by simpa using hE⟩
 ·simp at hlt
  omega
theorem cell_fin {W : World} {q4 : Nat} {c0 c1 c2 c3 : Value} (h4 : W.heap[q4]? = some (.cells #[c0, c1, c2, c3] 26 (0, 0))) (K N S V : Value) (a : Act) (hd : a.defers = []) (hq : a.tmps.getD 4 undef = .pointer (some ⟨q4, 0, none⟩)) (R : Ending → World → Prop)
  (hR : R (.returned (.agg #[K, N, S, V])) ((((W.setCell ⟨q4, 0, none⟩ K).setCell ⟨q4, 1, none⟩ N).setCell ⟨q4, 2, none⟩ S).setCell ⟨q4, 3, none⟩ V)) :
  bodyPost Tryd.prog Tryd.f55 R Exit.ret a ((((W.setCell ⟨q4, 0, none⟩ K).setCell ⟨q4, 1, none⟩ N).setCell ⟨q4, 2, none⟩ S).setCell ⟨q4, 3, none⟩ V) := by
 have h5 : ((((W.setCell ⟨q4, 0, none⟩ K).setCell ⟨q4, 1, none⟩ N).setCell ⟨q4, 2, none⟩ S).setCell ⟨q4, 3, none⟩ V).heap[q4]? = some (.cells #[K, N, S, V] 26 (0, 0)) :=
  blk_put (cs := #[K, N, S, c3]) (blk_put (cs := #[K, N, c2, c3]) (blk_put (cs := #[K, c1, c2, c3]) (blk_put (cs := #[c0, c1, c2, c3]) h4 0 K rfl) 1 N rfl) 2 S rfl) 3 V rfl
 generalize ((((W.setCell ⟨q4, 0, none⟩ K).setCell ⟨q4, 1, none⟩ N).setCell ⟨q4, 2, none⟩ S).setCell ⟨q4, 3, none⟩ V) = W5 at h5 hR ⊢
 refine ⟨hd, _, ?_, hR⟩
 have e0 : W5.cell? ⟨q4, 0, none⟩ = some K := (blk_cell h5 0).trans rfl
 have e1 : W5.cell? ⟨q4, 1, none⟩ = some N := (blk_cell h5 1).trans rfl
 have e2 : W5.cell? ⟨q4, 2, none⟩ = some S := (blk_cell h5 2).trans rfl
 have e3 : W5.cell? ⟨q4, 3, none⟩ = some V := (blk_cell h5 3).trans rfl
 have hq2 : a.tmps[4]?.getD undef = .pointer (some ⟨q4, 0, none⟩) := by simpa using hq
 simp [results, Tryd.results55, go_sem, hq2, e0, e1, e2, e3]
set_option maxHeartbeats 1600000 in
set_option maxRecDepth 100000 in
theorem rcell_number {w0 w : World} {p : Nat} {b : Int} {bs : List Int} (h : Rd w0 p w (b :: bs)) (deep : Nat) (hb : wrap64 b = 0) (c : S26) (rest : List Int) (e0 : Int)
  (hz : (if bs.length < 8 then some (z26, bs, 3) else some ((⟨wrap64 b, numR (bs.take 8) 0, ⟨#[]⟩, []⟩ : S26), bs.drop 8, (0 : Int))) = some (c, rest, e0)) :
  Calls Tryd.prog 55 #[.pointer (some ⟨p, 0, none⟩), .int .i64 deep] w (CellEnd w0 p w c rest e0) := by
 have hbel : ∀ o, Below w.heap.size w (w.alloc o) := fun o => (Below.refl _ _).alloc (Nat.le_refl _) _
 have HB := Aside0.mk hbel
 have H := Aside0.mk h
 have HZ := Aside0.mk hz
 have hbb : (wrap64 b == 0) = true := beq_iff_eq.mpr hb
 have HBB := Aside0.mk hb
 clear h hbel hz hb
 go_enter Tryd.func55, Tryd.ntmps55
 go_wp2_with fail
 refine (take1_calls (H.out.below (HB.out _))).mono ?_
 rintro e w2 ⟨ad, cc, rfl, hc, hx0, hE⟩
 have HE := Aside0.mk hE
 clear hE
 have h42 := HE.out.kept.2 w.heap.size (by simp) (by have := H.out.lt; omega)
 have hb4 : w2.heap[w.heap.size]? = some (.cells #[.int .i64 0, .int .u64 0, .string ⟨#[]⟩, .slice none 0 0] 26 (0, 0)) := h42.trans (heap_at rfl)
 have hp2 := HE.out.rd.lt
 have hps : p < w.heap.size := H.out.lt
 have hne45 : w.heap.size < w2.heap.size := (Array.getElem?_eq_some_iff.1 hb4).1
 obtain ⟨q4, h4⟩ : ∃ q, q = w.heap.size := ⟨_, rfl⟩
 obtain ⟨q5, h5⟩ : ∃ q, q = w2.heap.size := ⟨_, rfl⟩
 have H4 := Aside0.mk h4
 have H5 := Aside0.mk h5
 go_wp2_with fail
 refine (number_calls (HE.out.rd.below ((Below.refl _ _).alloc (Nat.le_refl _) _)) 8 (by omega)).mono ?_
 rintro e w3 (⟨hle, rfl, hE3⟩ | ⟨hlt, rfl, rfl⟩)
 ·have hb43 : w3.heap[q4]? = some (.cells #[.int .i64 0, .int .u64 0, .string ⟨#[]⟩, .slice none 0 0] 26 (0, 0)) := by
   rw [h4]
   exact blk_kept ((heap_under hne45).trans hb4) hE3.kept (by omega)
  have hb53 : w3.heap[q5]? = some (.cells #[.int .i64 (wrap64 b), .int .u64 0, .string ⟨#[]⟩, .slice none 0 0] 26 (0, 0)) := by
   rw [h5]
   exact blk_kept (heap_at rfl) hE3.kept (by omega)
  have HE3 := Aside0.mk (HE.out.trans (RdEnd.from HE.out.rd.top ((Below.refl _ _).alloc (Nat.le_refl _) _) hE3))
  rw [← h4, ← h5]
  have hn45 : q4 ≠ q5 := by omega
  have hn54 : q5 ≠ q4 := by omega
  have hc50 : w3.cell? ⟨q5, 0, none⟩ = some (.int .i64 (wrap64 b)) := (blk_cell hb53 0).trans rfl
  have hc51 : w3.cell? ⟨q5, 1, none⟩ = some (.int .u64 0) := (blk_cell hb53 1).trans rfl
  have hc52 : w3.cell? ⟨q5, 2, none⟩ = some (.string ⟨#[]⟩) := (blk_cell hb53 2).trans rfl
  have hc53 : w3.cell? ⟨q5, 3, none⟩ = some (.slice none 0 0) := (blk_cell hb53 3).trans rfl
  have hc40 : w3.cell? ⟨q4, 0, none⟩ = some (.int .i64 0) := (blk_cell hb43 0).trans rfl
  have hc41 : w3.cell? ⟨q4, 1, none⟩ = some (.int .u64 0) := (blk_cell hb43 1).trans rfl
  have hc42 : w3.cell? ⟨q4, 2, none⟩ = some (.string ⟨#[]⟩) := (blk_cell hb43 2).trans rfl
  have hc43 : w3.cell? ⟨q4, 3, none⟩ = some (.slice none 0 0) := (blk_cell hb43 3).trans rfl
  have hf5 := blk_frozen hb53
  have hf4 := blk_frozen hb43
  have HB43 := Aside0.mk hb43
  have HB53 := Aside0.mk hb53
  have HLE := Aside0.mk hle
  clear hb43 hb53 hE3 h4 h5 hle hb4 h42 hx0
  go_wp2
  have hzz := HZ.out
  rw [if_neg (by have := HLE.out; omega)] at hzz
  simp only [Option.some.injEq, Prod.mk.injEq] at hzz
  obtain ⟨rfl, rfl, rfl⟩ := hzz
  refine cell_fin (blk_far HB43.out hn45 _) _ _ _ _ _ rfl rfl _ (Or.inl ⟨rfl, _, rfl, Kd.R_nil _ _ _ _ _, ?_⟩)
  have htop := H.out.top
  have hle5 : w.heap.size ≤ q5 := by rw [H5.out]; omega
  have hle4 : w.heap.size ≤ q4 := by rw [H4.out]; omega
  exact (((((RdEnd.from H.out.top (HB.out _) HE3.out).far hle5 (by omega) _).far hle4 (by omega) _).far hle4 (by omega) _).far hle4 (by omega) _).far hle4 (by omega) _
 ·have HE3 := Aside0.mk (HE.out.trans (RdEnd.from HE.out.rd.top ((Below.refl w2.heap.size w2).alloc (Nat.le_refl _) (.cells #[.int .i64 (wrap64 b), .int .u64 0, .string ⟨#[]⟩, .slice none 0 0] 26)) (RdEnd.refl (HE.out.rd.below ((Below.refl _ _).alloc (Nat.le_refl _) _)))))
  have hzz := HZ.out
  rw [if_pos hlt] at hzz
  simp only [Option.some.injEq, Prod.mk.injEq] at hzz
  obtain ⟨rfl, rfl, rfl⟩ := hzz
  clear hb4 h42 h4 h5 hlt
  unfold wrongE
  go_wp2
  unfold bodyPost
  exact ⟨rfl, Or.inr ⟨by decide, rfl, _, (RdEnd.from H.out.top (HB.out _) HE3.out)⟩⟩
end Go.Proofs.YtlkaffbgekbcfaaDoor.Pr
end
section
namespace Go.Proofs.YtlkaffbgekbcfaaDoor.Pr
open Go.RowKit Go.Proofs.YtlkaffbgekbcfaaDoorW.PrintWords Go.Proofs.YtlkaffbgekbcfaaDoorW.PrintLast Go.Proofs.YtlkaffbgekbcfaaDoorW.PrintMore
set_option maxHeartbeats 1600000 in
set_option maxRecDepth 100000 in
theorem rcell_text {w0 w : World} {p : Nat} {b : Int} {bs : List Int} (h : Rd w0 p w (b :: bs)) (deep : Nat) (hb : wrap64 b = 1) (c : S26) (rest : List Int) (e0 : Int)
  (hl : bs.length ≤ 1048576) (hz : (if bs.length < 4 then some (z26, bs, 3)
   else if 0 ≤ wrap64 (numR (bs.take 4) 0) then
    if ((bs.drop 4).length : Int) < wrap64 (numR (bs.take 4) 0) then some (z26, bs, 3)
    else some ((⟨wrap64 b, 0, strOfNums ((bs.drop 4).take (wrap64 (numR (bs.take 4) 0)).toNat), []⟩ : S26), (bs.drop 4).drop (wrap64 (numR (bs.take 4) 0)).toNat, (0 : Int))
   else none) = some (c, rest, e0)) :
  Calls Tryd.prog 55 #[.pointer (some ⟨p, 0, none⟩), .int .i64 deep] w (CellEnd w0 p w c rest e0) := by
 have hbel : ∀ o, Below w.heap.size w (w.alloc o) := fun o => (Below.refl _ _).alloc (Nat.le_refl _) _
 have HB := Aside0.mk hbel
 have H := Aside0.mk h
 have HZ := Aside0.mk hz
 have hbb0 : (wrap64 b == 0) = false := beq_eq_false_iff_ne.mpr (by omega)
 have hbb : (wrap64 b == 1) = true := beq_iff_eq.mpr hb
 have HBB := Aside0.mk hb
 clear h hbel hz hb
 go_enter Tryd.func55, Tryd.ntmps55
 go_wp2_with fail
 refine (take1_calls (H.out.below (HB.out _))).mono ?_
 rintro e w2 ⟨ad, cc, rfl, hc, hx0, hE⟩
 have HE := Aside0.mk hE
 clear hE
 have h42 := HE.out.kept.2 w.heap.size (by simp) (by have := H.out.lt; omega)
 have hb4 : w2.heap[w.heap.size]? = some (.cells #[.int .i64 0, .int .u64 0, .string ⟨#[]⟩, .slice none 0 0] 26 (0, 0)) := h42.trans (heap_at rfl)
 have hp2 := HE.out.rd.lt
 have hps : p < w.heap.size := H.out.lt
 have hne45 : w.heap.size < w2.heap.size := (Array.getElem?_eq_some_iff.1 hb4).1
 obtain ⟨q4, h4⟩ : ∃ q, q = w.heap.size := ⟨_, rfl⟩
 obtain ⟨q5, h5⟩ : ∃ q, q = w2.heap.size := ⟨_, rfl⟩
 have H4 := Aside0.mk h4
 have H5 := Aside0.mk h5
 go_wp2_with fail
 refine (number_calls (HE.out.rd.below ((Below.refl _ _).alloc (Nat.le_refl _) _)) 4 (by omega)).mono ?_
 rintro e w3 (⟨hle, rfl, hE3⟩ | ⟨hlt, rfl, rfl⟩)
 ·have hb43 : w3.heap[q4]? = some (.cells #[.int .i64 0, .int .u64 0, .string ⟨#[]⟩, .slice none 0 0] 26 (0, 0)) := by
   rw [h4]
   exact blk_kept ((heap_under hne45).trans hb4) hE3.kept (by omega)
  have hb53 : w3.heap[q5]? = some (.cells #[.int .i64 (wrap64 b), .int .u64 0, .string ⟨#[]⟩, .slice none 0 0] 26 (0, 0)) := by
   rw [h5]
   exact blk_kept (heap_at rfl) hE3.kept (by omega)
  have HE3 := Aside0.mk (HE.out.trans (RdEnd.from HE.out.rd.top ((Below.refl _ _).alloc (Nat.le_refl _) _) hE3))
  rw [← h4, ← h5]
  have hn45 : q4 ≠ q5 := by omega
  have hn54 : q5 ≠ q4 := by omega
  have hp4 : q4 ≠ p := by omega
  have hp5 : q5 ≠ p := by omega
  have HB43 := Aside0.mk hb43
  have HB53 := Aside0.mk hb53
  have HLE := Aside0.mk hle
  have hzz := HZ.out
  rw [if_neg (by omega)] at hzz
  obtain ⟨n, hn⟩ : ∃ n, n = wrap64 (numR (bs.take 4) 0) := ⟨_, rfl⟩
  rw [← hn] at hzz
  have HN := Aside0.mk hn
  by_cases h0 : 0 ≤ n
  ·rw [if_pos h0] at hzz
   have HZZ := Aside0.mk hzz
   have H0 := Aside0.mk h0
   clear hb43 hb53 hE3 h4 h5 hle hb4 h42 hx0 hn hzz h0 HZ
   go_wp2_with fail
   rw [← HN.out]
   refine (takes_calls HE3.out.rd n H0.out).mono ?_
   rintro e w4 (⟨hle2, A2, c2, rfl, hc2, hC2, hE4⟩ | ⟨hlt, rfl, rfl⟩)
   ·have hCw := Kd.C_below hC2 hE4.rd.frm
    have hcv := Kd.C_string (P := Tryd.prog) (A := A2) (c := c2) Tryd.underlying31 Tryd.underlying5 Tryd.underlying9 hCw
    have hb44 := blk_kept HB43.out hE4.kept hp4
    have hb54 := blk_kept HB53.out hE4.kept hp5
    have HE4 := Aside0.mk (HE3.out.trans hE4)
    have hc50 : w4.cell? ⟨q5, 0, none⟩ = some (.int .i64 (wrap64 b)) := (blk_cell hb54 0).trans rfl
    have hc51 : w4.cell? ⟨q5, 1, none⟩ = some (.int .u64 0) := (blk_cell hb54 1).trans rfl
    have hc52 : w4.cell? ⟨q5, 2, none⟩ = some (.string ⟨#[]⟩) := (blk_cell hb54 2).trans rfl
    have hc53 : w4.cell? ⟨q5, 3, none⟩ = some (.slice none 0 0) := (blk_cell hb54 3).trans rfl
    have hc40 : w4.cell? ⟨q4, 0, none⟩ = some (.int .i64 0) := (blk_cell hb44 0).trans rfl
    have hc41 : w4.cell? ⟨q4, 1, none⟩ = some (.int .u64 0) := (blk_cell hb44 1).trans rfl
    have hc42 : w4.cell? ⟨q4, 2, none⟩ = some (.string ⟨#[]⟩) := (blk_cell hb44 2).trans rfl
    have hc43 : w4.cell? ⟨q4, 3, none⟩ = some (.slice none 0 0) := (blk_cell hb44 3).trans rfl
    have hf5 := blk_frozen hb54
    have hf4 := blk_frozen hb44
    have HB44 := Aside0.mk hb44
    have HLE2 := Aside0.mk hle2
    obtain ⟨ln, hln⟩ : ∃ ln, ln = ((bs.drop 4).take n.toNat).length := ⟨_, rfl⟩
    rw [← hln] at hcv hc2 ⊢
    clear hb44 hb54 hE4 hle2 hCw hC2 hln
    go_wp2
    have hzz := HZZ.out
    rw [if_neg (by have := HLE2.out; omega)] at hzz
    simp only [Option.some.injEq, Prod.mk.injEq] at hzz
    obtain ⟨rfl, rfl, rfl⟩ := hzz
    have htop := H.out.top
    have hle5 : w.heap.size ≤ q5 := by rw [H5.out]; omega
    have hle4 : w.heap.size ≤ q4 := by rw [H4.out]; omega
    refine cell_fin (blk_far HB44.out hn45 _) _ _ _ _ _ rfl rfl _ (Or.inl ⟨rfl, _, rfl, Kd.R_nil _ _ _ _ _, ?_⟩)
    exact (((((RdEnd.from H.out.top (HB.out _) HE4.out).far hle5 (by omega) _).far hle4 (by omega) _).far hle4 (by omega) _).far hle4 (by omega) _).far hle4 (by omega) _
   ·have hzz := HZZ.out
    rw [if_pos (by omega)] at hzz
    simp only [Option.some.injEq, Prod.mk.injEq] at hzz
    obtain ⟨rfl, rfl, rfl⟩ := hzz
    clear hlt
    unfold wrongE
    go_wp2
    unfold bodyPost
    exact ⟨rfl, Or.inr ⟨by decide, rfl, _, (RdEnd.from H.out.top (HB.out _) HE3.out)⟩⟩
  ·rw [if_neg h0] at hzz
   exact absurd hzz (by simp)
 ·have HE3 := Aside0.mk (HE.out.trans (RdEnd.from HE.out.rd.top ((Below.refl w2.heap.size w2).alloc (Nat.le_refl _) (.cells #[.int .i64 (wrap64 b), .int .u64 0, .string ⟨#[]⟩, .slice none 0 0] 26)) (RdEnd.refl (HE.out.rd.below ((Below.refl _ _).alloc (Nat.le_refl _) _)))))
  have hzz := HZ.out
  rw [if_pos hlt] at hzz
  simp only [Option.some.injEq, Prod.mk.injEq] at hzz
  obtain ⟨rfl, rfl, rfl⟩ := hzz
  clear hb4 h42 h4 h5 hlt
  unfold wrongE
  go_wp2
  unfold bodyPost
  exact ⟨rfl, Or.inr ⟨by decide, rfl, _, (RdEnd.from H.out.top (HB.out _) HE3.out)⟩⟩
end Go.Proofs.YtlkaffbgekbcfaaDoor.Pr
end
section
namespace Go.Proofs.YtlkaffbgekbcfaaDoor.Pr
open Go.RowKit Go.Proofs.YtlkaffbgekbcfaaDoorW.PrintWords Go.Proofs.YtlkaffbgekbcfaaDoorW.PrintLast Go.Proofs.YtlkaffbgekbcfaaDoorW.PrintMore
theorem RdEnd.grown {w0 w w1 w2 : World} {p : Nat} {bs : List Int} {row : Option Nat} (h : RdEnd w0 p w w1 bs) (hg : w1.grownBy w2 row) (hr : ∀ k, row = some k → w.heap.size ≤ k ∧ k ≠ p) (h0 : w0.heap.size ≤ w.heap.size) : RdEnd w0 p w w2 bs := by
 obtain ⟨A, c, hb, hr'⟩ := h.rd.blk
 have hs : w.heap.size ≤ w1.heap.size := h.kept.1
 exact ⟨⟨⟨A, c, blk_grown hb hg (fun e => (hr p e.symm).2 rfl), hr'⟩, h.rd.base, h.rd.frm.grown hg (Nat.le_trans h0 hs) (fun k hk => Nat.le_trans h0 (hr k hk).1)⟩, h.below.grown hg (Nat.le_trans h0 hs) (fun k hk => Nat.le_trans h0 (hr k hk).1), h.kept.of_grown hg (fun k hk => .inr (hr k hk).1)⟩
theorem foldR_rest {f : List Int → Option (S26 × List Int × Int)} (hf : ∀ bs c rest e, f bs = some (c, rest, e) → rest.length ≤ bs.length) : ∀ (n : Nat) (acc : List S26) (bs : List Int) (L : List S26) (rest : List Int) (e : Int), foldR f n acc bs = some (L, rest, e) → rest.length ≤ bs.length
 | 0, acc, bs, L, rest, e, h => by simp only [foldR, Option.some.injEq, Prod.mk.injEq] at h; rw [h.2.1]; exact Nat.le_refl _
 | n + 1, acc, bs, L, rest, e, h => by
  simp only [foldR] at h
  obtain ⟨⟨x, r, e2⟩, h1, h2⟩ := Option.bind_eq_some_iff.mp h
  have := hf _ _ _ _ h1
  by_cases he : e2 = 0
  ·rw [if_pos he] at h2
   have := foldR_rest hf n _ _ _ _ _ h2
   simp only at this
   omega
  ·rw [if_neg he] at h2
   simp only [Option.some.injEq, Prod.mk.injEq] at h2
   rw [← h2.2.1]; omega
theorem rdCell_rest : ∀ (k deep : Nat) (bs : List Int) (c : S26) (rest : List Int) (e : Int), rdCell k deep bs = some (c, rest, e) → rest.length ≤ bs.length
 | 0, deep, bs, c, rest, e, h => by simp [rdCell] at h
 | k + 1, deep, [], c, rest, e, h => by simp only [rdCell, Option.some.injEq, Prod.mk.injEq] at h; rw [← h.2.1]; exact Nat.le_refl _
 | k + 1, deep, b :: bs, c, rest, e, h => by
  simp only [rdCell] at h
  have hs : ∀ {x y : S26} {l r : List Int} {i j : Int}, some (x, l, i) = some (y, r, j) → l.length ≤ bs.length → r.length ≤ bs.length + 1 := by
   intro x y l r i j h1 h2
   simp only [Option.some.injEq, Prod.mk.injEq] at h1
   rw [← h1.2.1]; omega
  rw [List.length_cons]
  repeat' (first | split at h | (exact hs h (by first | omega | (simp only [List.length_drop]; omega))) | (cases h; done))
  obtain ⟨⟨L, r, e2⟩, h1, h2⟩ := Option.map_eq_some_iff.1 h
  have := foldR_rest (fun bs c rest e => rdCell_rest k (deep + 1) bs c rest e) _ _ _ _ _ _ h1
  refine hs (congrArg some h2) ?_
  rw [List.length_drop] at this
  simp only
  omega
theorem cellEnd_zero {w0 w w' : World} {p : Nat} {c : S26} {rest : List Int} {e0 : Int} {e : Ending} (h : CellEnd w0 p w c rest e0 e w') (h0 : e0 = 0) :
  ∃ v3, e = .returned (.agg #[.int .i64 c.f0, .int .u64 c.f1, .string c.f2, v3]) ∧ Kd.R k26 26 w' w.heap.size (fun _ => True) v3 c.f3 ∧ RdEnd w0 p w w' rest := by
 rcases h with ⟨_, h⟩ | ⟨h, _⟩
 ·exact h
 ·exact absurd h0 h
theorem cellEnd_not {w0 w w' : World} {p : Nat} {c : S26} {rest : List Int} {e0 : Int} {e : Ending} (h : CellEnd w0 p w c rest e0 e w') (h0 : e0 ≠ 0) : e = wrongE e0 ∧ ∃ rest', RdEnd w0 p w w' rest' := by
 rcases h with ⟨h, _⟩ | ⟨_, h⟩
 ·exact absurd h h0
 ·exact h
set_option maxHeartbeats 1600000 in
set_option maxRecDepth 100000 in
theorem rcell_list {w0 w : World} {p : Nat} {b : Int} {bs : List Int} (h : Rd w0 p w (b :: bs)) (deep : Nat) (hb : wrap64 b = 2) (hd : ¬ 64 < deep + 1) (c : S26) (rest : List Int) (e0 : Int)
  (hl : bs.length ≤ 1048576) (k : Nat)
  (ih : ∀ (deep : Nat) (D : Int) (w : World) (bs : List Int) (c : S26) (rest : List Int) (e0 : Int), Rd w0 p w bs → bs.length ≤ 1048576 → deep ≤ 64 → D = (deep : Int) → rdCell k deep bs = some (c, rest, e0) →
   Calls Tryd.prog 55 #[.pointer (some ⟨p, 0, none⟩), .int .i64 D] w (CellEnd w0 p w c rest e0))
  (hz : (if bs.length < 4 then some (z26, bs, 3)
   else if ((bs.drop 4).length : Int) < wrap64 (numR (bs.take 4) 0) then some (z26, bs, 3)
   else (foldR (fun ys => rdCell k (deep + 1) ys) (wrap64 (numR (bs.take 4) 0)).toNat [] (bs.drop 4)).map fun r => ((⟨wrap64 b, 0, ⟨#[]⟩, r.1⟩ : S26), r.2.1, r.2.2)) = some (c, rest, e0)) :
  Calls Tryd.prog 55 #[.pointer (some ⟨p, 0, none⟩), .int .i64 deep] w (CellEnd w0 p w c rest e0) := by
 have hbel : ∀ o, Below w.heap.size w (w.alloc o) := fun o => (Below.refl _ _).alloc (Nat.le_refl _) _
 have HB := Aside0.mk hbel
 have H := Aside0.mk h
 have HZ := Aside0.mk hz
 have hbb0 : (wrap64 b == 0) = false := beq_eq_false_iff_ne.mpr (by omega)
 have hbb1 : (wrap64 b == 1) = false := beq_eq_false_iff_ne.mpr (by omega)
 have hbb : (wrap64 b == 2) = true := beq_iff_eq.mpr hb
 have hdd : decide (64 < (deep : Int) + 1) = false := decide_eq_false (by omega)
 have hd3 : deep ≤ 64 := by omega
 have HD64 : Aside0 (deep + 1 ≤ 64) := ⟨by omega⟩
 have IH := Aside0.mk ih
 have HBB := Aside0.mk hb
 clear h hbel hz hb hd ih
 go_enter Tryd.func55, Tryd.ntmps55
 go_wp2_with fail
 refine (take1_calls (H.out.below (HB.out _))).mono ?_
 rintro e w2 ⟨ad, cc, rfl, hc, hx0, hE⟩
 have HE := Aside0.mk hE
 clear hE
 have h42 := HE.out.kept.2 w.heap.size (by simp) (by have := H.out.lt; omega)
 have hb4 : w2.heap[w.heap.size]? = some (.cells #[.int .i64 0, .int .u64 0, .string ⟨#[]⟩, .slice none 0 0] 26 (0, 0)) := h42.trans (heap_at rfl)
 have hp2 := HE.out.rd.lt
 have hps : p < w.heap.size := H.out.lt
 have hne45 : w.heap.size < w2.heap.size := (Array.getElem?_eq_some_iff.1 hb4).1
 obtain ⟨q4, h4⟩ : ∃ q, q = w.heap.size := ⟨_, rfl⟩
 obtain ⟨q5, h5⟩ : ∃ q, q = w2.heap.size := ⟨_, rfl⟩
 have H4 := Aside0.mk h4
 have H5 := Aside0.mk h5
 go_wp2_with fail
 refine (number_calls (HE.out.rd.below ((Below.refl _ _).alloc (Nat.le_refl _) _)) 4 (by omega)).mono ?_
 rintro e w3 (⟨hle, rfl, hE3⟩ | ⟨hlt, rfl, rfl⟩)
 ·have hb43 : w3.heap[q4]? = some (.cells #[.int .i64 0, .int .u64 0, .string ⟨#[]⟩, .slice none 0 0] 26 (0, 0)) := by
   rw [h4]
   exact blk_kept ((heap_under hne45).trans hb4) hE3.kept (by omega)
  have hb53 : w3.heap[q5]? = some (.cells #[.int .i64 (wrap64 b), .int .u64 0, .string ⟨#[]⟩, .slice none 0 0] 26 (0, 0)) := by
   rw [h5]
   exact blk_kept (heap_at rfl) hE3.kept (by omega)
  have HE3 := Aside0.mk (HE.out.trans (RdEnd.from HE.out.rd.top ((Below.refl _ _).alloc (Nat.le_refl _) _) hE3))
  rw [← h4, ← h5]
  have hn45 : q4 ≠ q5 := by omega
  have hn54 : q5 ≠ q4 := by omega
  have hp4 : q4 ≠ p := by omega
  have hp5 : q5 ≠ p := by omega
  have HB43 := Aside0.mk hb43
  have HB53 := Aside0.mk hb53
  have HLE := Aside0.mk hle
  have hzz := HZ.out
  rw [if_neg (by omega)] at hzz
  obtain ⟨n, hn⟩ : ∃ n, n = wrap64 (numR (bs.take 4) 0) := ⟨_, rfl⟩
  rw [← hn] at hzz
  have HN := Aside0.mk hn
  obtain ⟨A3, c3, hb3, hcc3, hC3⟩ := hE3.rd.blk
  have hp3 : w3.cell? ⟨p, 0, none⟩ = some (.slice A3 (bs.drop 4).length c3) := (blk_cell hb3 0).trans rfl
  obtain ⟨cs, hcs⟩ : ∃ cs, cs = bs.drop 4 := ⟨_, rfl⟩
  have hcl : cs.length ≤ 1048576 := by rw [hcs, List.length_drop]; omega
  rw [← hcs] at hp3 hzz HE3
  clear hcs hb3 hcc3 hC3
  by_cases hlt : (cs.length : Int) < n
  ·rw [if_pos hlt] at hzz
   simp only [Option.some.injEq, Prod.mk.injEq] at hzz
   obtain ⟨rfl, rfl, rfl⟩ := hzz
   have hdl : decide ((cs.length : Int) < n) = true := decide_eq_true hlt
   clear hb43 hb53 hE3 h4 h5 hle hb4 h42 hx0 hlt
   rw [hn] at hdl
   clear hn
   go_wp2_with (go_at_call 58; refine (give_calls _ _).mono ?_; rintro e w' ⟨rfl, rfl⟩)
   unfold bodyPost
   exact ⟨rfl, Or.inr ⟨by decide, rfl, _, (RdEnd.from H.out.top (HB.out _) HE3.out)⟩⟩
  ·rw [if_neg hlt] at hzz
   have hdl : decide ((cs.length : Int) < n) = false := decide_eq_false hlt
   have HZZ := Aside0.mk hzz
   have hncs : n ≤ cs.length := by omega
   have hc53 : w3.cell? ⟨q5, 3, none⟩ = some (.slice none 0 0) := (blk_cell hb53 3).trans rfl
   clear hb43 hb53 hE3 h4 h5 hle hb4 h42 hx0 hlt hzz HZ
   rw [hn] at hdl
   clear hn
   go_wp2_with fail
   rw [← HN.out]
   obtain ⟨⟨L, rest', e'⟩, hf, hcc⟩ := Option.map_eq_some_iff.1 HZZ.out
   simp only [Prod.mk.injEq] at hcc
   obtain ⟨rfl, rfl, rfl⟩ := hcc
   have hq53 : q5 < w3.heap.size := blk_lt HB53.out
   have hq43 : q4 < w3.heap.size := blk_lt HB43.out
   have hpw3 : p < w3.heap.size := HE3.out.rd.lt
   have HS : Aside0 (∃ acc cs2 A3 c3, w3.heap[q5]? = some (.cells #[.int .i64 (wrap64 b), .int .u64 0, .string ⟨#[]⟩, .slice A3 acc.length c3] 26 (0, 0)) ∧ w3.heap[q4]? = some (.cells #[.int .i64 0, .int .u64 0, .string ⟨#[]⟩, .slice none 0 0] 26 (0, 0)) ∧
     Kd.R k26 26 w3 w3.heap.size (fun _ => True) (.slice A3 acc.length c3) acc ∧ RdEnd w0 p w w3 cs2 ∧ w3.heap.size ≤ w3.heap.size ∧ cs2.length ≤ 1048576 ∧ (acc.length : Int) = 0 ∧ foldR (fun ys => rdCell k (deep + 1) ys) n.toNat acc cs2 = some (L, rest', e')) := ⟨[], cs, none, 0, HB53.out, HB43.out, Kd.R_nil _ _ _ _ _, RdEnd.from H.out.top (HB.out _) HE3.out, Nat.le_refl _, hcl, rfl, hf⟩
   clear HB53 HB43 HZZ hf hc53 HE3 hdl
   go_loopg [49] n.toNat (fun kq s49 wr => ∃ I : Int, s49 = .int .i64 I ∧ Aside0 (0 ≤ I ∧ (n.toNat : Int) - I = kq) ∧ Aside0 (∃ acc cs2 A3 c3, wr.heap[q5]? = some (.cells #[.int .i64 (wrap64 b), .int .u64 0, .string ⟨#[]⟩, .slice A3 acc.length c3] 26 (0, 0)) ∧ wr.heap[q4]? = some (.cells #[.int .i64 0, .int .u64 0, .string ⟨#[]⟩, .slice none 0 0] 26 (0, 0)) ∧
     Kd.R k26 26 wr w3.heap.size (fun _ => True) (.slice A3 acc.length c3) acc ∧ RdEnd w0 p w wr cs2 ∧ w3.heap.size ≤ wr.heap.size ∧ cs2.length ≤ 1048576 ∧ (acc.length : Int) = I ∧ foldR (fun ys => rdCell k (deep + 1) ys) kq acc cs2 = some (L, rest', e')))
   case atStart => exact ⟨0, rfl, ⟨by omega, by omega⟩, HS⟩
   case round =>
    clear HS
    obtain ⟨I, rfl, HI, HA⟩ := hrel
    obtain ⟨acc, cs2, A5, c5, hb5, hb4', hRr, hE, hle3, hcl2, hal, hff⟩ := HA.out
    have HB5 := Aside0.mk hb5
    have HB4 := Aside0.mk hb4'
    have HR := Aside0.mk hRr
    have HEr := Aside0.mk hE
    have HF := Aside0.mk hff
    have HAL := Aside0.mk hal
    have hqr : q5 < wr.heap.size := by omega
    have hqr4 : q4 < wr.heap.size := by omega
    have hpr : p < wr.heap.size := by omega
    have hc53 : wr.cell? ⟨q5, 3, none⟩ = some (.slice A5 acc.length c5) := (blk_cell hb5 3).trans rfl
    clear HA hb5 hb4' hRr hE hff hal
    cases gk with
    | zero =>
     have hIn : ¬ I < n := by have := HI.out; omega
     have d0 : decide (I < n) = false := decide_eq_false hIn
     have hff := HF.out
     rw [foldR] at hff
     simp only [Option.some.injEq, Prod.mk.injEq] at hff
     obtain ⟨rfl, rfl, rfl⟩ := hff
     have hc50 : wr.cell? ⟨q5, 0, none⟩ = some (.int .i64 (wrap64 b)) := (blk_cell HB5.out 0).trans rfl
     have hc51 : wr.cell? ⟨q5, 1, none⟩ = some (.int .u64 0) := (blk_cell HB5.out 1).trans rfl
     have hc52 : wr.cell? ⟨q5, 2, none⟩ = some (.string ⟨#[]⟩) := (blk_cell HB5.out 2).trans rfl
     have hc40 : wr.cell? ⟨q4, 0, none⟩ = some (.int .i64 0) := (blk_cell HB4.out 0).trans rfl
     have hc41 : wr.cell? ⟨q4, 1, none⟩ = some (.int .u64 0) := (blk_cell HB4.out 1).trans rfl
     have hc42 : wr.cell? ⟨q4, 2, none⟩ = some (.string ⟨#[]⟩) := (blk_cell HB4.out 2).trans rfl
     have hc43 : wr.cell? ⟨q4, 3, none⟩ = some (.slice none 0 0) := (blk_cell HB4.out 3).trans rfl
     have hf4 := blk_frozen HB4.out
     clear hIn
     go_wp2
     have htop := H.out.top
     have hle4 : w.heap.size ≤ q4 := by rw [H4.out]; omega
     have hR2 := Kd.R_mono (Kd.R_bound HR.out) (fun k hk => (⟨by have := hk.2.1; omega, trivial⟩ : k ≠ q4 ∧ True))
     refine cell_fin HB4.out _ _ _ _ _ rfl rfl _ (Or.inl ⟨rfl, _, rfl, ?_, ?_⟩)
     ·exact Kd.R_lower (Kd.R_mono (Kd.R_far (Kd.R_far (Kd.R_far (Kd.R_far hR2 (fun _ hk => hk.1) _) (fun _ hk => hk.1) _) (fun _ hk => hk.1) _) (fun _ hk => hk.1) _) (fun _ _ => trivial)) (by omega)
     ·exact ((((HEr.out).far hle4 (by omega) _).far hle4 (by omega) _).far hle4 (by omega) _).far hle4 (by omega) _
    | succ j =>
     have hIn : I < n := by have := HI.out; omega
     have d0 : decide (I < n) = true := decide_eq_true hIn
     have hff := HF.out
     rw [foldR] at hff
     obtain ⟨⟨x, rest2, e2⟩, hx, hff2⟩ := Option.bind_eq_some_iff.mp hff
     have HX := Aside0.mk hx
     have HF2 := Aside0.mk hff2
     have hrl : rest2.length ≤ cs2.length := rdCell_rest k _ _ _ _ _ hx
     have hpb : Below wr.heap.size wr wr.drew := below_drew (Below.refl _ _)
     have HPB := Aside0.mk hpb
     have HPR := Aside0.mk (HEr.out.rd.below hpb)
     have hf5 : wr.frozen? ⟨q5, 3, none⟩ = false := blk_frozen HB5.out 3
     have hn53 : q5 ≠ p := by omega
     have hn43 : q4 ≠ p := by omega
     clear hff hx hff2 hIn HF hpb
     by_cases he2 : e2 = 0
     ·have HE2 := Aside0.mk he2
      clear he2
      go_wp2_with fail
      go_region_law (first | (go_simp; refine (IH.out (deep + 1) _ _ cs2 x rest2 e2 HPR.out hcl2 HD64.out (by simp) HX.out).mono ?_; rintro e w4 hce; obtain ⟨v3x, rfl, hRx, hE4⟩ := cellEnd_zero hce HE2.out; clear hce; replace hRx : Kd.R k26 26 w4 wr.heap.size (fun _ => True) v3x x.f3 := hRx; obtain ⟨A6, c6, rfl⟩ := Kd.R_slice hRx; have hb54 := blk_kept HB5.out hE4.kept hn53; have hb44 := blk_kept HB4.out hE4.kept hn43; have hc54 : w4.cell? ⟨q5, 3, none⟩ = some (.slice A5 acc.length c5) := (blk_cell hb54 3).trans rfl; have hq54 : q5 < w4.heap.size := blk_lt hb54; have hsz4 : wr.heap.size ≤ w4.heap.size := hE4.kept.1; have HB54 := Aside0.mk hb54; have HB44 := Aside0.mk hb44; have HRX := Aside0.mk hRx; have HE4 := Aside0.mk hE4; have HR4 := Aside0.mk (Kd.R_mono (ok' := fun _ => True) (Kd.R_kept (Kd.R_mono (ok' := fun k => k ≠ p) (Kd.R_bound HR.out) (fun k hk => by have := hk.2.1; omega)) hE4.kept (fun k hk h => hk h)) (fun _ _ => trivial)); clear hb54 hb44 hRx hE4) | (refine Kd.R_append_step k26 (w0 := w4) w3.heap.size (by rfl) (.tmp 52) (.tmp 56) 24 26 _ 56 (by rfl) Tryd.underlying24 info26 rfl (by decide) (by decide) (.slice A5 acc.length c5) acc x [.int .i64 x.f0, .int .u64 x.f1, .string x.f2, .slice A6 x.f3.length c6] (fun _ => True) (fun k => wr.heap.size ≤ k) (by simp [Act.eval, Act.put]) (by simp [Act.eval, Act.put]) (k26_mkM _ _ _ _ (Kd.R_mono (Kd.R_lower (Kd.R_bound HRX.out) (by omega)) (fun k hk => hk.2.1))) (fun k hk => ⟨trivial, fun e => by have := Kd.R_lt HR.out k e.symm; omega⟩) (fun _ _ => trivial) HR4.out (Below.mk rfl rfl rfl (Nat.le_refl _) (fun _ _ => rfl) : Below w3.heap.size w4 w4) (by omega) (by have := HAL.out; have := HI.out; omega) ?_; intro v1 w5 ho5 hb5 hg5 hat5; obtain ⟨A7, c7, rfl⟩ := Kd.R_slice ho5; have hb55 := blk_grown HB54.out hg5 (fun e => by have := Kd.R_base HR4.out q5 e.symm; omega); have hb45 := blk_grown HB44.out hg5 (fun e => by have := Kd.R_base HR4.out q4 e.symm; omega); have hc55 : w5.cell? ⟨q5, 3, none⟩ = some (.slice A5 acc.length c5) := (blk_cell hb55 3).trans rfl; have hf55 : w5.frozen? ⟨q5, 3, none⟩ = false := blk_frozen hb55 3; have HB55 := Aside0.mk hb55; have HB45 := Aside0.mk hb45; have HG5 := Aside0.mk hg5; have HO5 := Aside0.mk ho5; have HS5 := Aside0.mk hg5.size; clear hb55 hb45 hg5 ho5 hat5 hb5))
      all_goals
       have hzz4 := HS5.out
       have hI1 : wrap64 (I + 1) = I + 1 := by unfold wrap64; have := HI.out; omega
       have HI1 := Aside0.mk hI1
       clear hI1
       go_wp2
       go_roundg j
       case measure => omega
       case rel =>
        have hi := HI.out
        have hal := HAL.out
        have hff2 := HF2.out
        rw [if_pos HE2.out] at hff2
        have htop := H.out.top
        have hle5 : w.heap.size ≤ q5 := by rw [H5.out]; omega
        have hE4' : RdEnd w0 p w w5 rest2 := (HEr.out.trans (RdEnd.from HEr.out.rd.top HPB.out HE4.out)).grown HG5.out (fun k hk => by have := Kd.R_base HR4.out k hk; omega) htop
        have hlen : acc.length + 1 = (acc ++ [x]).length := by simp
        rw [hlen]
        refine ⟨I + 1, ?_, ⟨by omega, by omega⟩, ⟨acc ++ [x], rest2, A7, c7, blk_put HB55.out 3 _ rfl, blk_far HB45.out (by omega) _, ?_, hE4'.far hle5 (by omega) _, ?_, by omega, ?_, hff2⟩⟩
        ·first | rfl | (rw [HI1.out])
        ·exact Kd.R_mono (Kd.R_far (Kd.R_mono (ok' := fun k => k ≠ q5) (Kd.R_bound HO5.out) (fun k hk => by have := hk.2.1; omega)) (fun _ hk => hk) _) (fun _ _ => trivial)
        ·simp only [World.setCell, Array.size_modify]; omega
        ·simp only [List.length_append, List.length_singleton]; omega
     ·have HE2 := Aside0.mk he2
      clear he2
      have hcall : ∀ W : World, W = wr.drew → Calls Tryd.prog 55 #[.pointer (some ⟨p, 0, none⟩), .int .i64 ((deep : Int) + 1)] W fun e w' => e = wrongE e2 ∧ ∃ rest', RdEnd w0 p W w' rest' := by
       intro W hW
       subst hW
       exact (IH.out (deep + 1) _ _ cs2 x rest2 e2 HPR.out hcl2 HD64.out (by simp) HX.out).mono fun e w' h => cellEnd_not h HE2.out
      have HC := Aside0.mk hcall
      have hff2 := HF2.out
      rw [if_neg HE2.out] at hff2
      simp only [Option.some.injEq, Prod.mk.injEq] at hff2
      obtain ⟨rfl, rfl, rfl⟩ := hff2
      clear hcall
      go_wp2_with fail
      refine wp_region_any (by kernel_rfl) ?_
      change wpAny _ _ _ _ _ _ _ (World.drew _)
      refine wpAny_take (i := 0) (v := .pointer (some ⟨q5, 3, none⟩)) rfl (by kernel_rfl) (by kernel_rfl) (by kernel_rfl) (fun _ _ _ h => h) (Or.inl ⟨by rfl, by intro w; go_simp⟩) ?_
      refine wpAny_take (i := 2) (v := .pointer (some ⟨p, 0, none⟩)) rfl (by kernel_rfl) (by kernel_rfl) (by kernel_rfl) (fun _ _ _ h => h) (Or.inl ⟨by rfl, by intro w; go_simp⟩) ?_
      refine wpAny_take (i := 3) (v := .int .i64 ((deep : Int) + 1)) rfl (by kernel_rfl) (by kernel_rfl) (by kernel_rfl) (fun _ _ _ h => h) (Or.inl ⟨by rfl, by intro w; go_simp⟩) ?_
      refine wpAny_ready (rs := [1, 4]) (by kernel_rfl) (by simp) ?_
      refine AllReady.cons rfl (fun K hK => ?_) (AllReady.cons rfl (fun K hK => ?_) AllReady.nil)
      ·go_simp
       refine hK _ _ ?_
       clear hK K
       refine wpAny_ready (rs := [4]) (by kernel_rfl) (by simp) ?_
       refine AllReady.cons rfl (fun K hK => ?_) AllReady.nil
       go_simp
       refine (HC.out _ rfl).mono ?_
       rintro e w4 ⟨rfl, rest', hE4⟩
       unfold wrongE
       simp only [Exit.inBlock, Exit.then, bodyPost]
       exact ⟨trivial, Or.inr ⟨HE2.out, rfl, rest', HEr.out.trans (RdEnd.from HEr.out.rd.top HPB.out hE4)⟩⟩
      ·go_simp
       refine (HC.out _ rfl).mono ?_
       rintro e w4 ⟨rfl, rest', hE4⟩
       unfold wrongE
       simp only [Exit.inBlock, Exit.then, bodyPost]
       exact ⟨trivial, Or.inr ⟨HE2.out, rfl, rest', HEr.out.trans (RdEnd.from HEr.out.rd.top HPB.out hE4)⟩⟩
 ·have HE3 := Aside0.mk (HE.out.trans (RdEnd.from HE.out.rd.top ((Below.refl w2.heap.size w2).alloc (Nat.le_refl _) (.cells #[.int .i64 (wrap64 b), .int .u64 0, .string ⟨#[]⟩, .slice none 0 0] 26)) (RdEnd.refl (HE.out.rd.below ((Below.refl _ _).alloc (Nat.le_refl _) _)))))
  have hzz := HZ.out
  rw [if_pos hlt] at hzz
  simp only [Option.some.injEq, Prod.mk.injEq] at hzz
  obtain ⟨rfl, rfl, rfl⟩ := hzz
  clear hb4 h42 h4 h5 hlt
  unfold wrongE
  go_wp2
  unfold bodyPost
  exact ⟨rfl, Or.inr ⟨by decide, rfl, _, (RdEnd.from H.out.top (HB.out _) HE3.out)⟩⟩
set_option maxHeartbeats 1600000 in
set_option maxRecDepth 100000 in
theorem rcell_else {w0 w : World} {p : Nat} {b : Int} {bs : List Int} (h : Rd w0 p w (b :: bs)) (deep : Nat) (hb : wrap64 b ≠ 0) (hb1 : wrap64 b ≠ 1) (hb2 : wrap64 b ≠ 2) :
  Calls Tryd.prog 55 #[.pointer (some ⟨p, 0, none⟩), .int .i64 deep] w (CellEnd w0 p w z26 bs 4) := by
 have hbel : ∀ o, Below w.heap.size w (w.alloc o) := fun o => (Below.refl _ _).alloc (Nat.le_refl _) _
 have HB := Aside0.mk hbel
 have H := Aside0.mk h
 have hbb0 : (wrap64 b == 0) = false := beq_eq_false_iff_ne.mpr hb
 have hbb1 : (wrap64 b == 1) = false := beq_eq_false_iff_ne.mpr hb1
 have hbb2 : (wrap64 b == 2) = false := beq_eq_false_iff_ne.mpr hb2
 have HBB := Aside0.mk hb
 clear h hbel hb hb1 hb2
 go_enter Tryd.func55, Tryd.ntmps55
 go_wp2_with fail
 refine (take1_calls (H.out.below (HB.out _))).mono ?_
 rintro e w2 ⟨ad, cc, rfl, hc, hx0, hE⟩
 have HE := Aside0.mk hE
 clear hE
 have h42 := HE.out.kept.2 w.heap.size (by simp) (by have := H.out.lt; omega)
 have HE3 := Aside0.mk (HE.out.trans (RdEnd.from HE.out.rd.top ((Below.refl w2.heap.size w2).alloc (Nat.le_refl _) (.cells #[.int .i64 (wrap64 b), .int .u64 0, .string ⟨#[]⟩, .slice none 0 0] 26)) (RdEnd.refl (HE.out.rd.below ((Below.refl _ _).alloc (Nat.le_refl _) _)))))
 clear h42
 go_wp2_with (go_at_call 58; refine (give_calls _ _).mono ?_; rintro e w' ⟨rfl, rfl⟩)
 unfold bodyPost
 exact ⟨rfl, Or.inr ⟨by decide, rfl, _, (RdEnd.from H.out.top (HB.out _) HE3.out)⟩⟩
set_option maxHeartbeats 1600000 in
set_option maxRecDepth 100000 in
theorem rcell_deep {w0 w : World} {p : Nat} {b : Int} {bs : List Int} (h : Rd w0 p w (b :: bs)) (deep : Nat) (hb : wrap64 b = 2) (hd : 64 < deep + 1) (hd2 : deep ≤ 64) :
  Calls Tryd.prog 55 #[.pointer (some ⟨p, 0, none⟩), .int .i64 deep] w (CellEnd w0 p w z26 bs 2) := by
 have hbel : ∀ o, Below w.heap.size w (w.alloc o) := fun o => (Below.refl _ _).alloc (Nat.le_refl _) _
 have HB := Aside0.mk hbel
 have H := Aside0.mk h
 have hbb0 : (wrap64 b == 0) = false := beq_eq_false_iff_ne.mpr (by omega)
 have hbb1 : (wrap64 b == 1) = false := beq_eq_false_iff_ne.mpr (by omega)
 have hbb : (wrap64 b == 2) = true := beq_iff_eq.mpr hb
 have hdd : decide (64 < (deep : Int) + 1) = true := decide_eq_true (by omega)
 have HBB := Aside0.mk hb
 clear h hbel hb hd
 go_enter Tryd.func55, Tryd.ntmps55
 go_wp2_with fail
 refine (take1_calls (H.out.below (HB.out _))).mono ?_
 rintro e w2 ⟨ad, cc, rfl, hc, hx0, hE⟩
 have HE := Aside0.mk hE
 clear hE
 have h42 := HE.out.kept.2 w.heap.size (by simp) (by have := H.out.lt; omega)
 have HE3 := Aside0.mk (HE.out.trans (RdEnd.from HE.out.rd.top ((Below.refl w2.heap.size w2).alloc (Nat.le_refl _) (.cells #[.int .i64 (wrap64 b), .int .u64 0, .string ⟨#[]⟩, .slice none 0 0] 26)) (RdEnd.refl (HE.out.rd.below ((Below.refl _ _).alloc (Nat.le_refl _) _)))))
 clear h42
 go_wp2_with (go_at_call 58; refine (give_calls _ _).mono ?_; rintro e w' ⟨rfl, rfl⟩)
 unfold bodyPost
 exact ⟨rfl, Or.inr ⟨by decide, rfl, _, (RdEnd.from H.out.top (HB.out _) HE3.out)⟩⟩
theorem rcell_calls (w0 : World) (p : Nat) : ∀ (k deep : Nat) (D : Int) (w : World) (bs : List Int) (c : S26) (rest : List Int) (e0 : Int), Rd w0 p w bs → bs.length ≤ 1048576 → deep ≤ 64 → D = (deep : Int) → rdCell k deep bs = some (c, rest, e0) →
   Calls Tryd.prog 55 #[.pointer (some ⟨p, 0, none⟩), .int .i64 D] w (CellEnd w0 p w c rest e0)
 | 0, deep, D, w, bs, c, rest, e0, h, hl, hd, hD, hz => by simp [rdCell] at hz
 | k + 1, deep, D, w, [], c, rest, e0, h, hl, hd, hD, hz => by
  subst hD
  simp only [rdCell, Option.some.injEq, Prod.mk.injEq] at hz
  obtain ⟨rfl, rfl, rfl⟩ := hz
  exact rcell_nil h deep
 | k + 1, deep, D, w, b :: bs, c, rest, e0, h, hl, hd, hD, hz => by
  subst hD
  simp only [rdCell] at hz
  have hl2 : bs.length ≤ 1048576 := by rw [List.length_cons] at hl; omega
  by_cases h0 : wrap64 b = 0
  ·rw [if_pos h0] at hz
   exact rcell_number h deep h0 c rest e0 hz
  ·rw [if_neg h0] at hz
   by_cases h1 : wrap64 b = 1
   ·rw [if_pos h1] at hz
    exact rcell_text h deep h1 c rest e0 hl2 hz
   ·rw [if_neg h1] at hz
    by_cases h2 : wrap64 b = 2
    ·rw [if_pos h2] at hz
     by_cases h3 : 64 < deep + 1
     ·rw [if_pos h3] at hz
      simp only [Option.some.injEq, Prod.mk.injEq] at hz
      obtain ⟨rfl, rfl, rfl⟩ := hz
      exact rcell_deep h deep h2 h3 hd
     ·rw [if_neg h3] at hz
      exact rcell_list h deep h2 h3 c rest e0 hl2 k (rcell_calls w0 p k) hz
    ·rw [if_neg h2] at hz
     simp only [Option.some.injEq, Prod.mk.injEq] at hz
     obtain ⟨rfl, rfl, rfl⟩ := hz
     exact rcell_else h deep h0 h1 h2
end Go.Proofs.YtlkaffbgekbcfaaDoor.Pr
end
section
namespace Go.Proofs.YtlkaffbgekbcfaaDoor.Pr
open Go.RowKit Go.Proofs.YtlkaffbgekbcfaaDoorW.PrintWords Go.Proofs.YtlkaffbgekbcfaaDoorW.PrintLast Go.Proofs.YtlkaffbgekbcfaaDoorW.PrintMore
def decR (r : S26 × List Int × Int) : Int × Int × ByteArray × (List S26) × Int :=
 if r.2.2 = 0 then if 0 < r.2.1.length then (0, 0, ⟨#[]⟩, [], 4) else (r.1.f0, r.1.f1, r.1.f2, r.1.f3, 0) else (0, 0, ⟨#[]⟩, [], r.2.2)
def code_Decode.f (k : Nat) (l0 : List Int) : Option (Int × Int × ByteArray × (List S26) × Int) :=
 if 1048576 < l0.length then some (0, 0, ⟨#[]⟩, [], 2) else (rdCell k 0 l0).map decR
theorem dec_world {w w2 : World} {q q3 : Nat} {z0 z1 z2 z3 z4 : Value} (hb2 : w2.heap[q]? = some (.cells #[z0, z1, z2, z3] 26 (0, 0))) (hb3 : w2.heap[q3]? = some (.cells #[z4] 32 (0, 0))) (K N S V E : Value) (o : Obj) (hB : Below w.heap.size w w2)
  (h2 : w.heap.size ≤ q := by omega) (h3 : w.heap.size ≤ q3 := by omega) :
  ((((((w2.setCell ⟨q, 0, none⟩ K).setCell ⟨q, 1, none⟩ N).setCell ⟨q, 2, none⟩ S).setCell ⟨q, 3, none⟩ V).setCell ⟨q3, 0, none⟩ E).alloc o).heap[q]? = some (.cells #[K, N, S, V] 26 (0, 0)) ∧
  ((((((w2.setCell ⟨q, 0, none⟩ K).setCell ⟨q, 1, none⟩ N).setCell ⟨q, 2, none⟩ S).setCell ⟨q, 3, none⟩ V).setCell ⟨q3, 0, none⟩ E).alloc o).heap[q3]? = some (.cells #[E] 32 (0, 0)) ∧
  Below w.heap.size w ((((((w2.setCell ⟨q, 0, none⟩ K).setCell ⟨q, 1, none⟩ N).setCell ⟨q, 2, none⟩ S).setCell ⟨q, 3, none⟩ V).setCell ⟨q3, 0, none⟩ E).alloc o) := by
 have hne : q ≠ q3 := blk_ne hb2 hb3 (by decide)
 have k4 := blk_put (cs := #[K, N, S, z3]) (blk_put (cs := #[K, N, z2, z3]) (blk_put (cs := #[K, z1, z2, z3]) (blk_put (cs := #[z0, z1, z2, z3]) hb2 0 K rfl) 1 N rfl) 2 S rfl) 3 V rfl
 have k5 := blk_far k4 (p := ⟨q3, 0, none⟩) hne E
 have j4 := blk_far (blk_far (blk_far (blk_far hb3 (p := ⟨q, 0, none⟩) hne.symm K) (p := ⟨q, 1, none⟩) hne.symm N) (p := ⟨q, 2, none⟩) hne.symm S) (p := ⟨q, 3, none⟩) hne.symm V
 have j5 := blk_put j4 0 E rfl
 exact ⟨(heap_under (blk_lt k5)).trans k5, (heap_under (blk_lt j5)).trans j5, below_alloc (below_set (below_set (below_set (below_set (below_set hB h2) h2) h2) h2) h3) o⟩
theorem decode_results {tmps : Array Value} {q2 q3 : Nat} {W : World} {K N S V E : Value} (h2 : tmps.getD 2 undef = .pointer (some ⟨q2, 0, none⟩)) (h3 : tmps.getD 3 undef = .pointer (some ⟨q3, 0, none⟩))
  (hb2 : W.heap[q2]? = some (.cells #[K, N, S, V] 26 (0, 0))) (hb3 : W.heap[q3]? = some (.cells #[E] 32 (0, 0))) :
  (results Tryd.f37 tmps).run Tryd.prog W = .ok (.tuple #[.agg #[K, N, S, V], E]) W := by
 have e0 : W.cell? ⟨q2, 0, none⟩ = some K := (blk_cell hb2 0).trans rfl
 have e1 : W.cell? ⟨q2, 1, none⟩ = some N := (blk_cell hb2 1).trans rfl
 have e2 : W.cell? ⟨q2, 2, none⟩ = some S := (blk_cell hb2 2).trans rfl
 have e3 : W.cell? ⟨q2, 3, none⟩ = some V := (blk_cell hb2 3).trans rfl
 have e4 : W.cell? ⟨q3, 0, none⟩ = some E := (blk_cell hb3 0).trans rfl
 have g2 : tmps[2]?.getD undef = .pointer (some ⟨q2, 0, none⟩) := by simpa using h2
 have g3 : tmps[3]?.getD undef = .pointer (some ⟨q3, 0, none⟩) := by simpa using h3
 simp [results, Tryd.results37, go_sem, g2, g3, e0, e1, e2, e3, e4]
set_option maxHeartbeats 1600000 in
set_option maxRecDepth 100000 in
theorem decode_long (A0 : Option Addr) (c0 : Nat) (l0 : List Int) (w : World) (hlong : 1048576 < l0.length) (hm : l0.length ≤ 9223372036854775807) :
  Calls Tryd.prog 37 #[.slice A0 l0.length c0] w fun e w' => e = .returned (.tuple #[.agg #[.int .i64 0, .int .u64 0, .string ⟨#[]⟩, .slice none 0 0], .int .i64 2]) ∧ Below w.heap.size w w' := by
 have b0 : decide (1048576 < (l0.length : Int)) = true := decide_eq_true (by omega)
 have b1 : decide (1048576 < l0.length) = true := decide_eq_true hlong
 clear hlong
 go_enter_defers Tryd.func37, Tryd.ntmps37
 go_wp2
 refine ⟨.tuple #[.agg #[.int .i64 0, .int .u64 0, .string ⟨#[]⟩, .slice none 0 0], .int .i64 2], ?_, rfl, by repeat (first | exact Below.refl _ _ | apply below_alloc)⟩
 exact decode_results rfl rfl ((heap_under (by simp)).trans (heap_at rfl)) (heap_at (by simp))
set_option maxHeartbeats 1600000 in
set_option maxRecDepth 100000 in
theorem decode_short (k : Nat) (A0 : Option Addr) (c0 : Nat) (l0 : List Int) (r1 r2 : Int) (r3 : ByteArray) (r4 : List S26) (r5 : Int) (w : World) (hr0 : Kd.C (Kd.int .u8) w A0 l0.length l0) (hc0 : l0.length ≤ c0) (hs : ¬ 1048576 < l0.length) (h : (rdCell k 0 l0).map decR = some (r1, r2, r3, r4, r5)) :
  Calls Tryd.prog 37 #[.slice A0 l0.length c0] w fun e w' => ∃ v3_ : Value, e = .returned (.tuple #[.agg #[.int .i64 r1, .int .u64 r2, .string r3, v3_], .int .i64 r5]) ∧ Kd.R k26 26 w' w.heap.size (fun _ => True) v3_ r4 ∧ Below w.heap.size w w' := by
 obtain ⟨⟨c, rest, e0⟩, hz, hr⟩ := Option.map_eq_some_iff.1 h
 have HZ := Aside0.mk hz
 have HC := Aside0.mk hr0
 have HR := Aside0.mk hr
 have b0 : decide (1048576 < (l0.length : Int)) = false := decide_eq_false (by omega)
 have b1 : decide (1048576 < l0.length) = false := decide_eq_false hs
 have hmf : ∀ (fn : Fn) (first cap : Array Value) (w : World), (Instr.makeFunc fn first cap).run Tryd.prog w = .ok (.func fn first cap) w := fun _ _ _ _ => rfl
 clear h hz hr hr0
 go_enter_defers Tryd.func37, Tryd.ntmps37
 go_wp2_with fail
 have hW1 : Below w.heap.size w (((w.alloc (.cells #[.int .i64 0, .int .u64 0, .string ⟨#[]⟩, .slice none 0 0] 26)).alloc (.cells #[.int .i64 0] 32)).alloc (.cells #[.slice A0 l0.length c0] 85)) := by
  repeat (first | exact Below.refl _ _ | apply below_alloc)
 obtain ⟨W, hWe⟩ : ∃ W, W = ((w.alloc (.cells #[.int .i64 0, .int .u64 0, .string ⟨#[]⟩, .slice none 0 0] 26)).alloc (.cells #[.int .i64 0] 32)).alloc (.cells #[.slice A0 l0.length c0] 85) := ⟨_, rfl⟩
 have hsz : W.heap.size = w.heap.size + 1 + 1 + 1 := by rw [hWe]; simp
 have hp : W.heap[w.heap.size + 1 + 1]? = some (.cells #[.slice A0 l0.length c0] 85 (0, 0)) := by
  rw [hWe]; exact heap_at (by simp)
 have hq3 : W.heap[w.heap.size + 1]? = some (.cells #[.int .i64 0] 32 (0, 0)) := by
  rw [hWe]; exact (heap_under (by simp)).trans (heap_at (by simp))
 have hq2 : W.heap[w.heap.size]? = some (.cells #[.int .i64 0, .int .u64 0, .string ⟨#[]⟩, .slice none 0 0] 26 (0, 0)) := by
  rw [hWe]; exact (heap_under (by simp; omega)).trans ((heap_under (by simp)).trans (heap_at rfl))
 rw [← hWe] at hW1 ⊢
 clear hWe
 have hRd : Rd w (w.heap.size + 1 + 1) W l0 := ⟨⟨A0, c0, hp, hc0, HC.out⟩, by omega, hW1⟩
 refine (rcell_calls w (w.heap.size + 1 + 1) k 0 0 W l0 c rest e0 hRd (by omega) (by omega) rfl HZ.out).mono ?_
 rintro e w2 hce
 have hrr := HR.out
 unfold decR at hrr
 by_cases he : e0 = 0
 ·obtain ⟨v3, rfl, hRv, hE⟩ := cellEnd_zero hce he
  simp only at hrr
  rw [if_pos he] at hrr
  obtain ⟨A5, c5, rfl⟩ := Kd.R_slice hRv
  have hq22 := blk_kept hq2 hE.kept (by omega)
  have hq32 := blk_kept hq3 hE.kept (by omega)
  obtain ⟨A6, c6, hb6, _⟩ := hE.rd.blk
  have hcp : w2.cell? ⟨w.heap.size + 1 + 1, 0, none⟩ = some (.slice A6 rest.length c6) := (blk_cell hb6 0).trans rfl
  have hc20 : w2.cell? ⟨w.heap.size, 0, none⟩ = some (.int .i64 0) := (blk_cell hq22 0).trans rfl
  have hc21 : w2.cell? ⟨w.heap.size, 1, none⟩ = some (.int .u64 0) := (blk_cell hq22 1).trans rfl
  have hc22 : w2.cell? ⟨w.heap.size, 2, none⟩ = some (.string ⟨#[]⟩) := (blk_cell hq22 2).trans rfl
  have hc23 : w2.cell? ⟨w.heap.size, 3, none⟩ = some (.slice none 0 0) := (blk_cell hq22 3).trans rfl
  have hc30 : w2.cell? ⟨w.heap.size + 1, 0, none⟩ = some (.int .i64 0) := (blk_cell hq32 0).trans rfl
  have hf2 := blk_frozen hq22
  have hf3 := blk_frozen hq32
  have hs1 : w.heap.size + 1 + 1 < w2.heap.size := blk_lt hb6
  have hs2 : w.heap.size + 1 < w2.heap.size := by omega
  have hs3 : w.heap.size < w2.heap.size := by omega
  have HB := Aside0.mk (hW1.trans hE.below)
  have HRv := Aside0.mk hRv
  have HQ2 := Aside0.mk hq22
  have HQ3 := Aside0.mk hq32
  have HSW := Aside0.mk hsz
  clear hce hRv hE hq22 hq32 hb6 hq2 hq3 hp hRd hW1 hsz he HZ HC HR
  by_cases hrest : 0 < rest.length
  ·rw [if_pos hrest] at hrr
   simp only [Prod.mk.injEq] at hrr
   obtain ⟨rfl, rfl, rfl, rfl, rfl⟩ := hrr
   have hd : decide ((rest.length : Int) > 0) = true := decide_eq_true (by omega)
   have hd2 : decide (0 < rest.length) = true := decide_eq_true (by omega)
   clear hrest
   go_wp2
   refine leaves_cons (f := 45) (args := #[.pointer (some ⟨w.heap.size + 1, 0, none⟩)]) (by simp) (by simp [go_sem]) ?_
   refine (caught_idle _ _).mono ?_
   rintro e u' w'' ⟨rfl, rfl, rfl⟩
   obtain ⟨g2, g3, g4⟩ := dec_world HQ2.out HQ3.out (.int .i64 0) (.int .u64 0) (.string ⟨#[]⟩) (.slice none 0 0) (.int .i64 4) (.cells #[.int .i64 c.f0, .int .u64 c.f1, .string c.f2, .slice A5 c.f3.length c5] 26) HB.out
   exact ⟨_, decode_results rfl rfl g2 g3, _, rfl, Kd.R_nil _ _ _ _ _, g4⟩
  ·rw [if_neg hrest] at hrr
   simp only [Prod.mk.injEq] at hrr
   obtain ⟨rfl, rfl, rfl, rfl, rfl⟩ := hrr
   have hd : decide ((rest.length : Int) > 0) = false := decide_eq_false (by omega)
   have hd2 : decide (0 < rest.length) = false := decide_eq_false (by omega)
   clear hrest
   go_wp2
   refine leaves_cons (f := 45) (args := #[.pointer (some ⟨w.heap.size + 1, 0, none⟩)]) (by simp) (by simp [go_sem]) ?_
   refine (caught_idle _ _).mono ?_
   rintro e u' w'' ⟨rfl, rfl, rfl⟩
   obtain ⟨g2, g3, g4⟩ := dec_world HQ2.out HQ3.out (.int .i64 c.f0) (.int .u64 c.f1) (.string c.f2) (.slice A5 c.f3.length c5) (.int .i64 0) (.cells #[.int .i64 c.f0, .int .u64 c.f1, .string c.f2, .slice A5 c.f3.length c5] 26) HB.out
   refine ⟨_, decode_results rfl rfl g2 g3, _, rfl, ?_, g4⟩
   have hR2 := Kd.R_mono (Kd.R_bound HRv.out) (fun k hk => (⟨by have := hk.2.1; have := HSW.out; omega, by have := hk.2.1; have := HSW.out; omega⟩ : k ≠ w.heap.size ∧ k ≠ w.heap.size + 1))
   exact Kd.R_lower (Kd.R_mono (Kd.R_alloc (Kd.R_far (Kd.R_far (Kd.R_far (Kd.R_far (Kd.R_far hR2 (fun _ hk => hk.1) _) (fun _ hk => hk.1) _) (fun _ hk => hk.1) _) (fun _ hk => hk.1) _) (fun _ hk => hk.2) _) _) (fun _ _ => trivial)) (by rw [HSW.out]; omega)
 ·obtain ⟨rfl, rest', hE⟩ := cellEnd_not hce he
  simp only at hrr
  rw [if_neg he] at hrr
  simp only [Prod.mk.injEq] at hrr
  obtain ⟨rfl, rfl, rfl, rfl, rfl⟩ := hrr
  have hq22 := blk_kept hq2 hE.kept (by omega)
  have hq32 := blk_kept hq3 hE.kept (by omega)
  have hc30 : w2.cell? ⟨w.heap.size + 1, 0, none⟩ = some (.int .i64 0) := (blk_cell hq32 0).trans rfl
  have hf3 := blk_frozen hq32 0
  have HB := Aside0.mk (hW1.trans hE.below)
  have HQ2 := Aside0.mk hq22
  have HQ3 := Aside0.mk hq32
  clear hce hE hq22 hq32 hq2 hq3 hp hRd hW1 hsz he HZ HC HR
  unfold wrongE
  go_wp2
  unfold wrongV
  refine leaves_cons (f := 45) (args := #[.pointer (some ⟨w.heap.size + 1, 0, none⟩)]) (by simp) (by simp [go_sem]) ?_
  refine (caught_panicking _ _ 0 e0 _ rfl [] _ hc30 hf3).mono ?_
  rintro e u' w'' ⟨rfl, rfl, hb⟩
  have hs : (w2.setCell ⟨w.heap.size + 1, 0, none⟩ (.int .i64 e0)).heap.size = w2.heap.size := by simp [World.setCell]
  have h2' := blk_far HQ2.out (p := ⟨w.heap.size + 1, 0, none⟩) (by simp) (.int .i64 e0)
  have h3' := blk_put HQ3.out 0 (.int .i64 e0) rfl
  have h2'' := (hb.block _ (by have := blk_lt HQ2.out; omega)).trans h2'
  have h3'' := (hb.block _ (by have := blk_lt HQ3.out; omega)).trans h3'
  refine ⟨_, decode_results rfl rfl h2'' h3'', _, rfl, Kd.R_nil _ _ _ _ _, ?_⟩
  exact (below_set HB.out (by omega)).trans (hb.mono (by have := HB.out.size; omega))
theorem code_Decode.calls (k : Nat) (A0 : Option Addr) (c0 : Nat) (l0 : List Int) (r1 r2 : Int) (r3 : ByteArray) (r4 : List S26) (r5 : Int) (w : World) (hr0 : Kd.C (Kd.int .u8) w A0 l0.length l0) (hc0 : l0.length ≤ c0) (h : code_Decode.f k l0 = some (r1, r2, r3, r4, r5)) :
  Calls Tryd.prog 37 #[.slice A0 l0.length c0] w fun e w' => ∃ v3_ : Value, e = .returned (.tuple #[.agg #[.int .i64 r1, .int .u64 r2, .string r3, v3_], .int .i64 r5]) ∧ Kd.R k26 26 w' w.heap.size (fun _ => True) v3_ r4 ∧ Below w.heap.size w w' := by
 unfold code_Decode.f at h
 by_cases hl : 1048576 < l0.length
 ·rw [if_pos hl] at h
  simp only [Option.some.injEq, Prod.mk.injEq] at h
  obtain ⟨rfl, rfl, rfl, rfl, rfl⟩ := h
  exact (decode_long A0 c0 l0 w hl hr0.2.1).mono fun e w' ⟨he, hb⟩ => ⟨_, he, Kd.R_nil _ _ _ _ _, hb⟩
 ·rw [if_neg hl] at h
  exact decode_short k A0 c0 l0 r1 r2 r3 r4 r5 w hr0 hc0 hl h
theorem foldR_mono {f g : List Int → Option (S26 × List Int × Int)} (hf : ∀ bs r, f bs = some r → g bs = some r) : ∀ (n : Nat) (acc : List S26) (bs : List Int) (r : List S26 × List Int × Int), foldR f n acc bs = some r → foldR g n acc bs = some r
 | 0, acc, bs, r, h => h
 | n + 1, acc, bs, r, h => by
  simp only [foldR] at h ⊢
  obtain ⟨s, h1, h2⟩ := Option.bind_eq_some_iff.mp h
  rw [hf _ _ h1]
  simp only [Option.bind_some]
  split
  ·rename_i he
   rw [if_pos he] at h2
   exact foldR_mono hf n _ _ r h2
  ·rename_i he
   rw [if_neg he] at h2
   exact h2
theorem rdCell_mono : ∀ (k deep : Nat) (bs : List Int) (r : S26 × List Int × Int), rdCell k deep bs = some r → rdCell (k + 1) deep bs = some r
 | 0, deep, bs, r, h => by simp [rdCell] at h
 | k + 1, deep, [], r, h => by rw [rdCell] at h ⊢; exact h
 | k + 1, deep, b :: bs, r, h => by
  rw [rdCell] at h ⊢
  have hf : ∀ (n : Nat) (ys : List Int) (r : List S26 × List Int × Int), foldR (fun ys => rdCell k (deep + 1) ys) n [] ys = some r → foldR (fun ys => rdCell (k + 1) (deep + 1) ys) n [] ys = some r := fun n ys r => foldR_mono (fun ys r hx => rdCell_mono k (deep + 1) ys r hx) n [] ys r
  by_cases h0 : wrap64 b = 0
  ·rw [if_pos h0] at h ⊢; exact h
  ·rw [if_neg h0] at h ⊢
   by_cases h1 : wrap64 b = 1
   ·rw [if_pos h1] at h ⊢; exact h
   ·rw [if_neg h1] at h ⊢
    by_cases h2 : wrap64 b = 2
    ·rw [if_pos h2] at h ⊢
     by_cases h3 : 64 < deep + 1
     ·rw [if_pos h3] at h ⊢; exact h
     ·rw [if_neg h3] at h ⊢
      by_cases h4 : bs.length < 4
      ·rw [if_pos h4] at h ⊢; exact h
      ·rw [if_neg h4] at h ⊢
       by_cases h5 : ((bs.drop 4).length : Int) < wrap64 (numR (bs.take 4) 0)
       ·rw [if_pos h5] at h ⊢; exact h
       ·rw [if_neg h5] at h ⊢
        obtain ⟨s, h6, h7⟩ := Option.map_eq_some_iff.1 h
        rw [hf _ _ _ h6]
        simp [h7]
    ·rw [if_neg h2] at h ⊢; exact h
theorem code_Decode.mono : ∀ a0 k, LeO (code_Decode.f k a0) (code_Decode.f (k + 1) a0) := by
 intro a0 k r h
 unfold code_Decode.f at h ⊢
 by_cases hl : 1048576 < a0.length
 ·rw [if_pos hl] at h ⊢; exact h
 ·rw [if_neg hl] at h ⊢
  obtain ⟨s, h6, h7⟩ := Option.map_eq_some_iff.1 h
  rw [rdCell_mono _ _ _ _ h6]
  simp [h7]
end Go.Proofs.YtlkaffbgekbcfaaDoor.Pr
end
section
namespace Go.Proofs.YtlkaffbgekbcfaaDoor.Pr
open Go.RowKit Go.Proofs.YtlkaffbgekbcfaaDoorW.PrintWords Go.Proofs.YtlkaffbgekbcfaaDoorW.PrintLast Go.Proofs.YtlkaffbgekbcfaaDoorW.PrintMore
section
variable {P : Program} {ops : Array Oper} {rest : List Oper} {o : Oper} {a : Act} {Q : Exit → Act → World → Prop}
end
end Go.Proofs.YtlkaffbgekbcfaaDoor.Pr
end
section
namespace Go.Proofs.YtlkaffbgekbcfaaDoor.Pr
open Go.RowKit Go.Proofs.YtlkaffbgekbcfaaDoorW.PrintWords Go.Proofs.YtlkaffbgekbcfaaDoorW.PrintLast Go.Proofs.YtlkaffbgekbcfaaDoorW.PrintMore
theorem am {p : Prop} (h : p) : Aside0 p := ⟨h⟩
abbrev zS_ : Array Value := #[.int .u64 0, .int .u64 0, .slice none 0 0, .int .i64 0, .int .u64 0, .string (⟨#[]⟩ : ByteArray), .slice none 0 0, .int .i64 0, .int .u64 0, .string (⟨#[]⟩ : ByteArray), .slice none 0 0]
theorem pB {p : Prop} (h : p := by repeat (first | (with_reducible first | exact HB.out | apply below_alloc | apply pw_below_drewN | apply below_drew1 | refine below_set ?_ (Aside0.out (by with_reducible assumption))) | exact HB.out)) : p := h
theorem pK {p q : Prop} (h : p) (f : p → q := by intro h_; (with_reducible repeat (first | refine blk_drewN ?_ _ | refine blk_drew ?_ | refine blk_alloc ?_ _)); exact h_) : q := f h
theorem pkb {W W1 W2 : World} {g : Nat} {o : Obj} (h : W.heap[g]? = some o) (hb : Below W1.heap.size W1 W2) (f : W.heap[g]? = some o → W1.heap[g]? = some o := by intro h_; (with_reducible repeat (first | refine blk_drewN ?_ _ | refine blk_drew ?_ | refine blk_alloc ?_ _)); exact h_) : W2.heap[g]? = some o := blk_below (f h) hb
theorem pkl {W W1 : World} {g : Nat} {o : Obj} (h : W.heap[g]? = some o) (f : W.heap[g]? = some o → W1.heap[g]? = some o := by intro h_; (with_reducible repeat (first | refine blk_drewN ?_ _ | refine blk_drew ?_ | refine blk_alloc ?_ _)); exact h_) : g < W1.heap.size := blk_lt (f h)
theorem pR {p q : Prop} (h : p) (f : p → q := by intro h_; (with_reducible repeat (first | apply Kd.R_alloc | apply Kd.R_drewN | apply Kd.R_drew)); exact h_) : q := f h
theorem pN {p q : Prop} (h : p) (f : p → q := by intro h_; (with_reducible repeat (first | apply Kd.N_alloc | apply Kd.N_drewN | apply Kd.N_drew)); exact h_) : q := f h
theorem pV {p q : Prop} (h : p) (f : p → q := by intro h_; (with_reducible repeat (first | apply Kd.V_alloc | apply Kd.V_drewN | apply Kd.V_drew)); exact h_) : q := f h
theorem pC {p q : Prop} (h : p) (f : p → q := by intro h_; (repeat (first | exact h_ | (with_reducible refine Kd.C_alloc ?_ _) | (with_reducible refine Kd.C_drewN ?_ _) | (with_reducible refine Kd.C_drew ?_)))) : q := f h
theorem pM {p : Prop} (h : p := by (try simp only [List.map_toArray, List.map_cons, List.map_nil]); first | done | rfl | (simp only [List.length_drop, List.length_take]; rfl)) : p := h
theorem pE {p : Prop} (h : p := by first | rfl | (simp [errW_none, errW_some] <;> rfl) | (simp [*, errW_none, errW_some] <;> rfl)) : p := h
theorem pZ {p : Prop} (h : p := by first | exact Kd.R_nil _ _ _ _ _ | exact Kd.N_nil _ _ _ _ _ | exact Kd.V_nil _ _ _ _ _ | exact Kd.Q_nil _ _ _ _ _ | exact Kd.S_nil _ _ _ _ _) : p := h
theorem pW {p q : Prop} (h : p) (f : p → q := by intro h_; first | exact h_ | (rw [add_block]; exact h_) | (show (Addr.add _ _).block ≠ _; rw [add_block]; exact h_) | (dsimp only; exact h_)) : q := f h
theorem pD {p : Prop} [Decidable p] (h : decide p = true := by first | (with_reducible assumption) | assumption) : p := of_decide_eq_true h
theorem pG {p : Prop} (h : p := by first | (with_reducible exact HG.out) | (with_reducible exact globDrewN HG.out _) | exact globBelow HG.out pB | exact globBelow HG.out pB | (repeat (first | (with_reducible exact HG.out) | apply globDrewN | apply globDrew))) : p := h
theorem pA {p : Prop} (h : p := by simp only [Act.put, List.setIfInBounds_toArray, List.set_cons_zero, List.set_cons_succ, i64_w, i32_w]; try rfl) : p := h
theorem pX {α : Type} {d : Kd α} {e : Nat} {w : World} {base : Nat} {ok : Nat → Prop} {v : Value} {xs : List α} {g t : Nat} {cells : Array Value} (h : d.R e w base ok v xs) (hb : w.heap[g]? = some (.cells cells t (0, 0))) (ht : e ≠ t ∨ ∀ k, ok k → k ≠ g := by first | (left; decide) | (right; intro k_ h_; first | exact h_ | exact h_.2 | exact h_.1.2 | exact h_.2.2 | exact h_.2.1 | exact h_.1.1.2 | exact h_.1.2.2 | exact h_.2.2.1 | exact h_.2.2.2)) : some g ≠ v.ownBlock := by
 rcases ht with ht | ht
 ·exact Kd.R_ne h hb ht
 ·intro e_
  exact ht g (h.1 g e_.symm) rfl
def bm (n k : Nat) : Array Bool := ((List.range n).map (Nat.testBit k)).toArray
theorem cz0 {W : World} {g : Nat} {t : TypeId} {x0 : Value} {l : List Value} (h : W.heap[g]? = some (.cells (List.toArray (x0 :: l)) t (0, 0))) : W.cell? ⟨g, 0, none⟩ = some x0 := (blk_cell h 0).trans rfl
theorem cz1 {W : World} {g : Nat} {t : TypeId} {x0 x1 : Value} {l : List Value} (h : W.heap[g]? = some (.cells (List.toArray (x0 :: x1 :: l)) t (0, 0))) : W.cell? ⟨g, 1, none⟩ = some x1 := (blk_cell h 1).trans rfl
theorem cz2 {W : World} {g : Nat} {t : TypeId} {x0 x1 x2 : Value} {l : List Value} (h : W.heap[g]? = some (.cells (List.toArray (x0 :: x1 :: x2 :: l)) t (0, 0))) : W.cell? ⟨g, 2, none⟩ = some x2 := (blk_cell h 2).trans rfl
theorem cz3 {W : World} {g : Nat} {t : TypeId} {x0 x1 x2 x3 : Value} {l : List Value} (h : W.heap[g]? = some (.cells (List.toArray (x0 :: x1 :: x2 :: x3 :: l)) t (0, 0))) : W.cell? ⟨g, 3, none⟩ = some x3 := (blk_cell h 3).trans rfl
theorem cz4 {W : World} {g : Nat} {t : TypeId} {x0 x1 x2 x3 x4 : Value} {l : List Value} (h : W.heap[g]? = some (.cells (List.toArray (x0 :: x1 :: x2 :: x3 :: x4 :: l)) t (0, 0))) : W.cell? ⟨g, 4, none⟩ = some x4 := (blk_cell h 4).trans rfl
theorem cz5 {W : World} {g : Nat} {t : TypeId} {x0 x1 x2 x3 x4 x5 : Value} {l : List Value} (h : W.heap[g]? = some (.cells (List.toArray (x0 :: x1 :: x2 :: x3 :: x4 :: x5 :: l)) t (0, 0))) : W.cell? ⟨g, 5, none⟩ = some x5 := (blk_cell h 5).trans rfl
theorem cz6 {W : World} {g : Nat} {t : TypeId} {x0 x1 x2 x3 x4 x5 x6 : Value} {l : List Value} (h : W.heap[g]? = some (.cells (List.toArray (x0 :: x1 :: x2 :: x3 :: x4 :: x5 :: x6 :: l)) t (0, 0))) : W.cell? ⟨g, 6, none⟩ = some x6 := (blk_cell h 6).trans rfl
theorem cz7 {W : World} {g : Nat} {t : TypeId} {x0 x1 x2 x3 x4 x5 x6 x7 : Value} {l : List Value} (h : W.heap[g]? = some (.cells (List.toArray (x0 :: x1 :: x2 :: x3 :: x4 :: x5 :: x6 :: x7 :: l)) t (0, 0))) : W.cell? ⟨g, 7, none⟩ = some x7 := (blk_cell h 7).trans rfl
theorem cz8 {W : World} {g : Nat} {t : TypeId} {x0 x1 x2 x3 x4 x5 x6 x7 x8 : Value} {l : List Value} (h : W.heap[g]? = some (.cells (List.toArray (x0 :: x1 :: x2 :: x3 :: x4 :: x5 :: x6 :: x7 :: x8 :: l)) t (0, 0))) : W.cell? ⟨g, 8, none⟩ = some x8 := (blk_cell h 8).trans rfl
theorem cz9 {W : World} {g : Nat} {t : TypeId} {x0 x1 x2 x3 x4 x5 x6 x7 x8 x9 : Value} {l : List Value} (h : W.heap[g]? = some (.cells (List.toArray (x0 :: x1 :: x2 :: x3 :: x4 :: x5 :: x6 :: x7 :: x8 :: x9 :: l)) t (0, 0))) : W.cell? ⟨g, 9, none⟩ = some x9 := (blk_cell h 9).trans rfl
theorem cz10 {W : World} {g : Nat} {t : TypeId} {x0 x1 x2 x3 x4 x5 x6 x7 x8 x9 x10 : Value} {l : List Value} (h : W.heap[g]? = some (.cells (List.toArray (x0 :: x1 :: x2 :: x3 :: x4 :: x5 :: x6 :: x7 :: x8 :: x9 :: x10 :: l)) t (0, 0))) : W.cell? ⟨g, 10, none⟩ = some x10 := (blk_cell h 10).trans rfl
theorem cf4 {W : World} {g : Nat} {t : TypeId} {x0 x1 x2 x3 : Value} (h : W.heap[g]? = some (.cells #[x0, x1, x2, x3] t (0, 0))) : W.cell? ⟨g, 0, none⟩ = some x0 ∧ W.cell? ⟨g, 1, none⟩ = some x1 ∧ W.cell? ⟨g, 2, none⟩ = some x2 ∧ W.cell? ⟨g, 3, none⟩ = some x3 ∧ W.frozen? ⟨g, 0, none⟩ = false ∧ W.frozen? ⟨g, 1, none⟩ = false ∧ W.frozen? ⟨g, 2, none⟩ = false ∧ W.frozen? ⟨g, 3, none⟩ = false := ⟨(blk_cell h 0).trans rfl, (blk_cell h 1).trans rfl, (blk_cell h 2).trans rfl, (blk_cell h 3).trans rfl, blk_frozen h 0, blk_frozen h 1, blk_frozen h 2, blk_frozen h 3⟩
theorem cf11 {W : World} {g : Nat} {t : TypeId} {x0 x1 x2 x3 x4 x5 x6 x7 x8 x9 x10 : Value} (h : W.heap[g]? = some (.cells #[x0, x1, x2, x3, x4, x5, x6, x7, x8, x9, x10] t (0, 0))) : W.cell? ⟨g, 0, none⟩ = some x0 ∧ W.cell? ⟨g, 1, none⟩ = some x1 ∧ W.cell? ⟨g, 2, none⟩ = some x2 ∧ W.cell? ⟨g, 3, none⟩ = some x3 ∧ W.cell? ⟨g, 4, none⟩ = some x4 ∧ W.cell? ⟨g, 5, none⟩ = some x5 ∧ W.cell? ⟨g, 6, none⟩ = some x6 ∧ W.cell? ⟨g, 7, none⟩ = some x7 ∧ W.cell? ⟨g, 8, none⟩ = some x8 ∧ W.cell? ⟨g, 9, none⟩ = some x9 ∧ W.cell? ⟨g, 10, none⟩ = some x10 ∧ W.frozen? ⟨g, 0, none⟩ = false ∧ W.frozen? ⟨g, 1, none⟩ = false ∧ W.frozen? ⟨g, 2, none⟩ = false ∧ W.frozen? ⟨g, 3, none⟩ = false ∧ W.frozen? ⟨g, 4, none⟩ = false ∧ W.frozen? ⟨g, 5, none⟩ = false ∧ W.frozen? ⟨g, 6, none⟩ = false ∧ W.frozen? ⟨g, 7, none⟩ = false ∧ W.frozen? ⟨g, 8, none⟩ = false ∧ W.frozen? ⟨g, 9, none⟩ = false ∧ W.frozen? ⟨g, 10, none⟩ = false := ⟨(blk_cell h 0).trans rfl, (blk_cell h 1).trans rfl, (blk_cell h 2).trans rfl, (blk_cell h 3).trans rfl, (blk_cell h 4).trans rfl, (blk_cell h 5).trans rfl, (blk_cell h 6).trans rfl, (blk_cell h 7).trans rfl, (blk_cell h 8).trans rfl, (blk_cell h 9).trans rfl, (blk_cell h 10).trans rfl, blk_frozen h 0, blk_frozen h 1, blk_frozen h 2, blk_frozen h 3, blk_frozen h 4, blk_frozen h 5, blk_frozen h 6, blk_frozen h 7, blk_frozen h 8, blk_frozen h 9, blk_frozen h 10⟩
end Go.Proofs.YtlkaffbgekbcfaaDoor.Pr
end
section
namespace Go.Proofs.YtlkaffbgekbcfaaDoor.Pr
open Go.RowKit Go.Proofs.YtlkaffbgekbcfaaDoorW.PrintWords Go.Proofs.YtlkaffbgekbcfaaDoorW.PrintLast Go.Proofs.YtlkaffbgekbcfaaDoorW.PrintMore
attribute [local go_sem] max2_int min2_int max_two min_two max_three min_three max_four min_four
mutual
def minstrelref07_Small.l0 : Nat → Int → Int → Int → Int → Int → Int → ByteArray → List (S26) → Option (Int × Bool)
 | 0, _, _, _, _, _, _, _, _ => none
 | k + 1, x1, x2, x8, x9, x102000, x102001, x102002, x102003 => if x9 < (x102003.length : Int) then (if 0 ≤ x9 then ((minstrelref07_Small.f k ((rd_T26 x102003 x9).f0) ((rd_T26 x102003 x9).f1) ((rd_T26 x102003 x9).f2) ((rd_T26 x102003 x9).f3) (wrap64 (x1 - x8)) (wrap64 (x2 + 1))).bind fun bt103 => (if bt103.2 = true then (if (wrap64 (x8 + bt103.1)) > x1 then (some (wrap64 (x8 + bt103.1), false)) else (minstrelref07_Small.l0 k x1 x2 (wrap64 (x8 + bt103.1)) (wrap64 (x9 + 1)) x102000 x102001 x102002 x102003)) else (some (wrap64 (x8 + bt103.1), false)))) else (none)) else (some (x8, true))
def minstrelref07_Small.f : Nat → Int → Int → ByteArray → List (S26) → Int → Int → Option (Int × Bool)
 | 0, _, _, _, _, _, _ => none
 | k + 1, a0_0, a0_1, a0_2, l0_3, a1, a2 => if a2 > 100 then (some (1, false)) else (minstrelref07_Small.l0 k a1 a2 1 0 a0_0 a0_1 a0_2 l0_3)
end
set_option maxHeartbeats 8000000 in
set_option maxRecDepth 100000 in
theorem minstrelref07_Small.calls (k : Nat) : ∀ (a0_0 : Int) (a0_1 : Int) (a0_2 : ByteArray) (A0_3 : Option Addr) (c0_3 : Nat) (l0_3 : List (S26)) (a1 : Int) (a2 : Int) (r1 : Int) (r2 : Bool) (w : World) (hr0_3 : Kd.C k26 w A0_3 l0_3.length l0_3) (hc0_3 : l0_3.length ≤ c0_3) (h : minstrelref07_Small.f k a0_0 a0_1 a0_2 l0_3 a1 a2 = some (r1, r2)),
  Calls Tryd.prog 25 #[.agg #[.int .i64 a0_0, .int .u64 a0_1, .string a0_2, .slice A0_3 l0_3.length c0_3], .int .i64 a1, .int .i64 a2] w fun e w' => e = .returned (.tuple #[.int .i64 r1, .bool r2]) ∧ Below w.heap.size w w' := by
 induction k using Nat.strongRecOn with
 | _ k ih =>
 intro a0_0 a0_1 a0_2 A0_3 c0_3 l0_3 a1 a2 r1 r2 w hr0_3 hc0_3 h
 cases k with
 | zero => exact absurd h (by simp [minstrelref07_Small.f])
 | succ k =>
 simp only [minstrelref07_Small.f] at h
 have hu26 := Tryd.underlying26
 have HR0_3 := am hr0_3
 have HC0_3 := am hc0_3
 clear hr0_3 hc0_3
 have HB := am (Below.refl w.heap.size w)
 have H : (if a2 > 100 then (some (1, false)) else (minstrelref07_Small.l0 k a1 a2 1 0 a0_0 a0_1 a0_2 l0_3)) = some (r1, r2) := h
 clear h
 by_cases c4 : a2 > 100
 ·rw [if_pos c4] at H
  have c4b0 : decide (100 < a2) = true := decide_eq_true c4
  clear c4
  simp only [Option.some.injEq, Prod.mk.injEq] at H
  obtain ⟨rfl, rfl⟩ := H
  go_enter Tryd.func25, Tryd.ntmps25
  go_wp2_with (first | ((with_reducible refine gate_dst (N := 3) rfl ?_); refine box_event ?hg (N := 3) ?hd (cs := #[.int .i64 a0_0, .int .u64 a0_1, .string a0_2, .slice A0_3 l0_3.length c0_3]) (t := 26) ?hr ?_; (case hd => rfl); (case hg => rfl); (case hr => first | (go_simp; done) | (go_simp; rfl)); intro gb101 hg w5 hbox hb; have BK101 := am (hbox); have GW101 := am ((by rw [hg]; exact (below_size pB) : w.heap.size ≤ gb101)); have GE101 := am ((by rw [hg]; exact (below_size pB) : w.heap.size ≤ gb101)); replace HB := am (below_step pB hb); clear hb hbox hg))
  go_ret2
  exact ⟨pE, pB⟩
 ·rw [if_neg c4] at H
  have c4b0 : decide (100 < a2) = false := decide_eq_false c4
  clear c4
  have H' := am H
  clear H
  go_enter Tryd.func25, Tryd.ntmps25
  go_wp2_with (first | ((with_reducible refine gate_dst (N := 3) rfl ?_); refine box_event ?hg (N := 3) ?hd (cs := #[.int .i64 a0_0, .int .u64 a0_1, .string a0_2, .slice A0_3 l0_3.length c0_3]) (t := 26) ?hr ?_; (case hd => rfl); (case hg => rfl); (case hr => first | (go_simp; done) | (go_simp; rfl)); intro gb101 hg w6 hbox hb; have BK101 := am (hbox); have GW101 := am ((by rw [hg]; exact (below_size pB) : w.heap.size ≤ gb101)); have GE101 := am ((by rw [hg]; exact (below_size pB) : w.heap.size ≤ gb101)); replace HB := am (below_step pB hb); clear hb hbox hg))
  go_loopg [8, 9] k (fun kq v8 v9 w' => ∃ (x8_1 : Int) (x9_1 : Int), v8 = .int .i64 x8_1 ∧ v9 = .int .i64 x9_1 ∧ Aside0 (minstrelref07_Small.l0 kq a1 a2 x8_1 x9_1 a0_0 a0_1 a0_2 l0_3 = some (r1, r2)) ∧ Aside0 (kq ≤ k) ∧ Aside0 (w'.heap[gb101]? = some (.cells #[.int .i64 a0_0, .int .u64 a0_1, .string a0_2, (.slice A0_3 l0_3.length c0_3)] 26 (0, 0))) ∧ Aside0 (Below w.heap.size w w'))
  case atStart => exact ⟨(1), (0), (by first | rfl | (simp; done) | (simp [*]; done)), (by first | rfl | (simp; done) | (simp [*]; done)), H', ⟨Nat.le_refl _⟩, ⟨by (with_reducible repeat (first | refine blk_drewN ?_ _ | refine blk_drew ?_ | refine blk_alloc ?_ _)); exact BK101.out⟩, ⟨pB⟩⟩
  case round =>
   clear H'
   try clear c2
   try clear p2
   try clear c4
   try clear c4b0
   obtain ⟨x8_1, x9_1, rfl, rfl, HA, HK1, BK101, HB⟩ := hrel
   cases gk with
   | zero => exact absurd HA.out (by simp [minstrelref07_Small.l0])
   | succ k1 =>
    have H := HA.out
    clear HA
    simp only [minstrelref07_Small.l0] at H
    by_cases c7 : x9_1 < (l0_3.length : Int)
    ·rw [if_pos c7] at H
     have c7b0 : decide (x9_1 < (l0_3.length : Int)) = true := decide_eq_true c7
     clear c7
     by_cases c8 : 0 ≤ x9_1
     ·rw [if_pos c8] at H
      have c8b0 : decide (0 ≤ x9_1) = true := decide_eq_true c8
      clear c8
      replace H := Option.bind_eq_some_iff.mp H
      obtain ⟨⟨t103, t104⟩, A90, H⟩ := H
      try dsimp only at H
      have A9 := am A90
      clear A90
      by_cases c10 : t104 = true
      ·subst c10
       rw [if_pos rfl] at H
       by_cases c11 : (wrap64 (x8_1 + t103)) > a1
       ·rw [if_pos c11] at H
        have c11b0 : decide (a1 < (wrap64 (x8_1 + t103))) = true := decide_eq_true c11
        clear c11
        simp only [Option.some.injEq, Prod.mk.injEq] at H
        obtain ⟨rfl, rfl⟩ := H
        have q12 := cf4 BK101.out
        have p102 : 0 ≤ (x9_1 : Int) := pD
        have q102 : x9_1 < (l0_3.length : Int) := pD
        obtain ⟨ad102, A102_3, c102_3, e102, hx102_0, hx102_1, hx102_2, hx102_3, hl102_3, hi102_3⟩ := at_T26 HR0_3.out x9_1 p102 q102
        cases e102
        replace hx102_0 := (HB.out.cell (World.block_lt_of_cell? w _ hx102_0)).trans hx102_0
        replace hx102_1 := (HB.out.cell (World.block_lt_of_cell? w _ hx102_1)).trans hx102_1
        replace hx102_2 := (HB.out.cell (World.block_lt_of_cell? w _ hx102_2)).trans hx102_2
        replace hx102_3 := (HB.out.cell (World.block_lt_of_cell? w _ hx102_3)).trans hx102_3
        have HR102_3 := am hi102_3
        have HC102_3 := am hl102_3
        clear hi102_3 hl102_3
        replace p102 := eq_true p102
        replace q102 := eq_true q102
        go_wp2_with (first | ((with_reducible refine gate_callee (f := 25) rfl ?_); refine goesL_ (some 33) rfl rfl Tryd.func25 (by kernel_rfl) rfl #[.agg #[.int .i64 ((rd_T26 l0_3 x9_1).f0), .int .u64 ((rd_T26 l0_3 x9_1).f1), .string ((rd_T26 l0_3 x9_1).f2), .slice A102_3 ((rd_T26 l0_3 x9_1).f3).length c102_3], .int .i64 (wrap64 (a1 - x8_1)), .int .i64 (wrap64 (a2 + 1))] rfl pM ?_; (with_reducible refine (ih k1 (by have := HK1.out; omega) ((rd_T26 l0_3 x9_1).f0) ((rd_T26 l0_3 x9_1).f1) ((rd_T26 l0_3 x9_1).f2) _ _ ((rd_T26 l0_3 x9_1).f3) (wrap64 (a1 - x8_1)) (wrap64 (a2 + 1)) t103 true _ ?side1 ?side2 A9.out).mono ?_); (case side1 => exact pC (Kd.C_below HR102_3.out HB.out)); (case side2 => exact HC102_3.out); rintro e w13 ⟨rfl, hb⟩; refine ⟨_, rfl, ?_⟩; replace BK101 := am (pkb BK101.out hb); replace HB := am (below_step pB hb); (try clear hb); (try clear hb2); (try clear hk); (try clear hi)))
        go_ret2
        exact ⟨pE, pB⟩
       ·rw [if_neg c11] at H
        have c11b0 : decide (a1 < (wrap64 (x8_1 + t103))) = false := decide_eq_false c11
        clear c11
        have H' := am H
        clear H
        have q14 := cf4 BK101.out
        have p102 : 0 ≤ (x9_1 : Int) := pD
        have q102 : x9_1 < (l0_3.length : Int) := pD
        obtain ⟨ad102, A102_3, c102_3, e102, hx102_0, hx102_1, hx102_2, hx102_3, hl102_3, hi102_3⟩ := at_T26 HR0_3.out x9_1 p102 q102
        cases e102
        replace hx102_0 := (HB.out.cell (World.block_lt_of_cell? w _ hx102_0)).trans hx102_0
        replace hx102_1 := (HB.out.cell (World.block_lt_of_cell? w _ hx102_1)).trans hx102_1
        replace hx102_2 := (HB.out.cell (World.block_lt_of_cell? w _ hx102_2)).trans hx102_2
        replace hx102_3 := (HB.out.cell (World.block_lt_of_cell? w _ hx102_3)).trans hx102_3
        have HR102_3 := am hi102_3
        have HC102_3 := am hl102_3
        clear hi102_3 hl102_3
        replace p102 := eq_true p102
        replace q102 := eq_true q102
        go_wp2_with (first | ((with_reducible refine gate_callee (f := 25) rfl ?_); refine goesL_ (some 33) rfl rfl Tryd.func25 (by kernel_rfl) rfl #[.agg #[.int .i64 ((rd_T26 l0_3 x9_1).f0), .int .u64 ((rd_T26 l0_3 x9_1).f1), .string ((rd_T26 l0_3 x9_1).f2), .slice A102_3 ((rd_T26 l0_3 x9_1).f3).length c102_3], .int .i64 (wrap64 (a1 - x8_1)), .int .i64 (wrap64 (a2 + 1))] rfl pM ?_; (with_reducible refine (ih k1 (by have := HK1.out; omega) ((rd_T26 l0_3 x9_1).f0) ((rd_T26 l0_3 x9_1).f1) ((rd_T26 l0_3 x9_1).f2) _ _ ((rd_T26 l0_3 x9_1).f3) (wrap64 (a1 - x8_1)) (wrap64 (a2 + 1)) t103 true _ ?side1 ?side2 A9.out).mono ?_); (case side1 => exact pC (Kd.C_below HR102_3.out HB.out)); (case side2 => exact HC102_3.out); rintro e w15 ⟨rfl, hb⟩; refine ⟨_, rfl, ?_⟩; replace BK101 := am (pkb BK101.out hb); replace HB := am (below_step pB hb); (try clear hb); (try clear hb2); (try clear hk); (try clear hi)))
        go_roundg k1
        case measure => have := HK1.out; omega
        case rel => exact ⟨(wrap64 (x8_1 + t103)), (wrap64 (x9_1 + 1)), (by first | rfl | (simp; done) | (simp [*]; done)), (by first | rfl | (simp; done) | (simp [*]; done)), H', ⟨by have := HK1.out; omega⟩, ⟨by (with_reducible repeat (first | refine blk_drewN ?_ _ | refine blk_drew ?_ | refine blk_alloc ?_ _)); exact BK101.out⟩, ⟨pB⟩⟩
      ·replace c10 := Bool.eq_false_iff.mpr c10
       subst c10
       rw [if_neg (show ¬ (false = true) by decide)] at H
       simp only [Option.some.injEq, Prod.mk.injEq] at H
       obtain ⟨rfl, rfl⟩ := H
       have q16 := cf4 BK101.out
       have p102 : 0 ≤ (x9_1 : Int) := pD
       have q102 : x9_1 < (l0_3.length : Int) := pD
       obtain ⟨ad102, A102_3, c102_3, e102, hx102_0, hx102_1, hx102_2, hx102_3, hl102_3, hi102_3⟩ := at_T26 HR0_3.out x9_1 p102 q102
       cases e102
       replace hx102_0 := (HB.out.cell (World.block_lt_of_cell? w _ hx102_0)).trans hx102_0
       replace hx102_1 := (HB.out.cell (World.block_lt_of_cell? w _ hx102_1)).trans hx102_1
       replace hx102_2 := (HB.out.cell (World.block_lt_of_cell? w _ hx102_2)).trans hx102_2
       replace hx102_3 := (HB.out.cell (World.block_lt_of_cell? w _ hx102_3)).trans hx102_3
       have HR102_3 := am hi102_3
       have HC102_3 := am hl102_3
       clear hi102_3 hl102_3
       replace p102 := eq_true p102
       replace q102 := eq_true q102
       go_wp2_with (first | ((with_reducible refine gate_callee (f := 25) rfl ?_); refine goesL_ (some 33) rfl rfl Tryd.func25 (by kernel_rfl) rfl #[.agg #[.int .i64 ((rd_T26 l0_3 x9_1).f0), .int .u64 ((rd_T26 l0_3 x9_1).f1), .string ((rd_T26 l0_3 x9_1).f2), .slice A102_3 ((rd_T26 l0_3 x9_1).f3).length c102_3], .int .i64 (wrap64 (a1 - x8_1)), .int .i64 (wrap64 (a2 + 1))] rfl pM ?_; (with_reducible refine (ih k1 (by have := HK1.out; omega) ((rd_T26 l0_3 x9_1).f0) ((rd_T26 l0_3 x9_1).f1) ((rd_T26 l0_3 x9_1).f2) _ _ ((rd_T26 l0_3 x9_1).f3) (wrap64 (a1 - x8_1)) (wrap64 (a2 + 1)) t103 false _ ?side1 ?side2 A9.out).mono ?_); (case side1 => exact pC (Kd.C_below HR102_3.out HB.out)); (case side2 => exact HC102_3.out); rintro e w17 ⟨rfl, hb⟩; refine ⟨_, rfl, ?_⟩; replace BK101 := am (pkb BK101.out hb); replace HB := am (below_step pB hb); (try clear hb); (try clear hb2); (try clear hk); (try clear hi)))
       go_ret2
       exact ⟨pE, pB⟩
     ·rw [if_neg c8] at H
      exact absurd H (by simp)
    ·rw [if_neg c7] at H
     have c7b0 : decide (x9_1 < (l0_3.length : Int)) = false := decide_eq_false c7
     clear c7
     simp only [Option.some.injEq, Prod.mk.injEq] at H
     obtain ⟨rfl, rfl⟩ := H
     have q18 := cf4 BK101.out
     go_wp2
     go_ret2
     exact ⟨pE, pB⟩
def minstrellaw19_small.f (k : Nat) (a0_0 : Int) (a0_1 : Int) (a0_2 : ByteArray) (l0_3 : List (S26)) : Option (Bool) := (minstrelref07_Small.f k a0_0 a0_1 a0_2 l0_3 2000 0).bind fun bt106 => (some bt106.2)
set_option maxHeartbeats 8000000 in
set_option maxRecDepth 100000 in
theorem minstrellaw19_small.calls (k : Nat) (a0_0 : Int) (a0_1 : Int) (a0_2 : ByteArray) (A0_3 : Option Addr) (c0_3 : Nat) (l0_3 : List (S26)) (r : Bool) (w : World) (hr0_3 : Kd.C k26 w A0_3 l0_3.length l0_3) (hc0_3 : l0_3.length ≤ c0_3) (h : minstrellaw19_small.f k a0_0 a0_1 a0_2 l0_3 = some r) :
  Calls Tryd.prog 7 #[.agg #[.int .i64 a0_0, .int .u64 a0_1, .string a0_2, .slice A0_3 l0_3.length c0_3]] w fun e w' => e = .returned (.bool r) ∧ Below w.heap.size w w' := by
 have hu26 := Tryd.underlying26
 have HR0_3 := am hr0_3
 have HC0_3 := am hc0_3
 clear hr0_3 hc0_3
 have HB := am (Below.refl w.heap.size w)
 have H : ((minstrelref07_Small.f k a0_0 a0_1 a0_2 l0_3 2000 0).bind fun bt106 => (some bt106.2)) = some r := h
 clear h
 replace H := Option.bind_eq_some_iff.mp H
 obtain ⟨⟨t106, t107⟩, A20, H⟩ := H
 try dsimp only at H
 have A2 := am A20
 clear A20
 obtain rfl := Option.some.inj H
 go_enter Tryd.func7, Tryd.ntmps7
 go_wp2_with (first | ((with_reducible refine gate_dst (N := 1) rfl ?_); refine box_event ?hg (N := 1) ?hd (cs := #[.int .i64 a0_0, .int .u64 a0_1, .string a0_2, .slice A0_3 l0_3.length c0_3]) (t := 26) ?hr ?_; (case hd => rfl); (case hg => rfl); (case hr => first | (go_simp; done) | (go_simp; rfl)); intro gb105 hg w3 hbox hb; have BK105 := am (hbox); have GW105 := am ((by rw [hg]; exact (below_size pB) : w.heap.size ≤ gb105)); have GE105 := am ((by rw [hg]; exact (below_size pB) : w.heap.size ≤ gb105)); replace HB := am (below_step pB hb); clear hb hbox hg; have q4 := cf4 BK105.out) | ((with_reducible refine gate_callee (f := 25) rfl ?_); refine goesL_ (some 7) rfl rfl Tryd.func25 (by kernel_rfl) rfl #[.agg #[.int .i64 a0_0, .int .u64 a0_1, .string a0_2, .slice A0_3 l0_3.length c0_3], .int .i64 2000, .int .i64 0] rfl pM ?_; (with_reducible refine (minstrelref07_Small.calls k a0_0 a0_1 a0_2 _ _ l0_3 2000 0 t106 t107 _ ?side1 ?side2 A2.out).mono ?_); (case side1 => exact pC (Kd.C_below HR0_3.out HB.out)); (case side2 => exact HC0_3.out); rintro e w5 ⟨rfl, hb⟩; refine ⟨_, rfl, ?_⟩; replace BK105 := am (pkb BK105.out hb); replace HB := am (below_step pB hb); (try clear hb); (try clear hb2); (try clear hk); (try clear hi)))
 go_ret
 exact ⟨pE, pB⟩
def snap_can.l0 : Nat → List Int → Int → List Int → Int → Int → Option (Bool)
 | 0, _, _, _, _, _ => none
 | k + 1, x0, x3, x6, x7, x8 => if x8 < x7 then (if 0 ≤ x8 then (if x8 < (x6.length : Int) then (if (rd x6 x8) ≤ x3 then (some false) else (if (rd x6 x8) > 64 then (some false) else (snap_can.l0 k x0 (rd x6 x8) x6 x7 (wrap64 (x8 + 1))))) else (none)) else (none)) else (some (decide ((x0.length : Int) > 0)))
def snap_can.f (k : Nat) (l0 : List Int) : Option (Bool) := snap_can.l0 k l0 0 l0 (l0.length : Int) 0
theorem snap_can.mono_l : ∀ k, (∀ y0 y1 y2 y3 y4, LeO (snap_can.l0 k y0 y1 y2 y3 y4) (snap_can.l0 (k + 1) y0 y1 y2 y3 y4))
 | 0 => fun _ _ _ _ _ r h => by simp [snap_can.l0] at h
 | k + 1 => by
  have ih0 := snap_can.mono_l k
  ·intro y0 y1 y2 y3 y4
   unfold snap_can.l0
   repeat' first
   | (with_reducible exact ih0 _ _ _ _ _)
   | (with_reducible exact LeO.refl _)
   | (with_reducible exact LeO.none _)
   | (with_reducible refine LeO.ite ?_ ?_)
   | (with_reducible refine LeO.bind ?_ (fun _ => ?_))
   | exact ih0 _ _ _ _ _
   | exact LeO.none _
   | refine LeO.ite ?_ ?_
   | refine LeO.bind ?_ (fun _ => ?_)
theorem snap_can.mono : ∀ a0 k, LeO (snap_can.f k a0) (snap_can.f (k + 1) a0) := by
 intro a0 k
 have ih0 := snap_can.mono_l k
 unfold snap_can.f
 repeat' first
   | (with_reducible exact ih0 _ _ _ _ _)
   | (with_reducible exact LeO.refl _)
   | (with_reducible exact LeO.none _)
   | (with_reducible refine LeO.ite ?_ ?_)
   | (with_reducible refine LeO.bind ?_ (fun _ => ?_))
   | exact ih0 _ _ _ _ _
   | exact LeO.none _
   | refine LeO.ite ?_ ?_
   | refine LeO.bind ?_ (fun _ => ?_)
set_option maxHeartbeats 8000000 in
set_option maxRecDepth 100000 in
theorem snap_can.calls (k : Nat) (A0 : Option Addr) (c0 : Nat) (l0 : List Int) (r : Bool) (w : World) (hr0 : Kd.C (Kd.int .i64) w A0 l0.length l0) (hc0 : l0.length ≤ c0) (h : snap_can.f k l0 = some r) :
  Calls Tryd.prog 26 #[.slice A0 l0.length c0] w fun e w' => e = .returned (.bool r) ∧ Drawn0 w w' := by
 have HR0 := am hr0
 have HC0 := am hc0
 clear hr0 hc0
 have H : (snap_can.l0 k l0 0 l0 (l0.length : Int) 0) = some r := h
 clear h
 have H' := am H
 clear H
 go_enter Tryd.func26, Tryd.ntmps26
 go_wp2
 go_loopg [3, 8] k (fun kq v3 v8 w' => ∃ (x3_1 : Int) (x8_1 : Int), v3 = .int .i64 x3_1 ∧ v8 = .int .i64 x8_1 ∧ Aside0 (snap_can.l0 kq l0 x3_1 l0 (l0.length : Int) x8_1 = some r) ∧ Aside0 (kq ≤ k) ∧ Drawn0 w w')
 case atStart => exact ⟨(0), (0), (by first | rfl | (simp; done) | (simp [*]; done)), (by first | rfl | (simp; done) | (simp [*]; done)), H', ⟨Nat.le_refl _⟩, by repeat (first | exact Drawn0.refl _ | apply Drawn0.step)⟩
 case round =>
  clear H'
  obtain ⟨x3_1, x8_1, rfl, rfl, HA, HK1, ⟨m1, rfl⟩⟩ := hrel
  cases gk with
  | zero => exact absurd HA.out (by simp [snap_can.l0])
  | succ k1 =>
   have H := HA.out
   clear HA
   simp only [snap_can.l0] at H
   by_cases c2 : x8_1 < (l0.length : Int)
   ·rw [if_pos c2] at H
    have c2b0 : decide (x8_1 < (l0.length : Int)) = true := decide_eq_true c2
    clear c2
    by_cases c3 : 0 ≤ x8_1
    ·rw [if_pos c3] at H
     have c3b0 : decide (0 ≤ x8_1) = true := decide_eq_true c3
     clear c3
     by_cases c4 : x8_1 < (l0.length : Int)
     ·rw [if_pos c4] at H
      have c4b0 : decide (x8_1 < (l0.length : Int)) = true := decide_eq_true c4
      clear c4
      by_cases c5 : (rd l0 x8_1) ≤ x3_1
      ·rw [if_pos c5] at H
       have c5b0 : decide ((rd l0 x8_1) ≤ x3_1) = true := decide_eq_true c5
       clear c5
       obtain rfl := Option.some.inj H
       have p108 : 0 ≤ (x8_1 : Int) := pD
       have q108 : x8_1 < (l0.length : Int) := pD
       obtain ⟨ad108, e108, hx108_0⟩ := Kd.at_int HR0.out x8_1 p108 q108
       cases e108
       replace p108 := eq_true p108
       replace q108 := eq_true q108
       go_wp2
       go_ret
       exact ⟨by first | rfl | (simp; done) | (simp [*]; done), by repeat (first | exact Drawn0.refl _ | apply Drawn0.step)⟩
      ·rw [if_neg c5] at H
       have c5b0 : decide ((rd l0 x8_1) ≤ x3_1) = false := decide_eq_false c5
       clear c5
       by_cases c6 : (rd l0 x8_1) > 64
       ·rw [if_pos c6] at H
        have c6b0 : decide (64 < (rd l0 x8_1)) = true := decide_eq_true c6
        clear c6
        obtain rfl := Option.some.inj H
        have p108 : 0 ≤ (x8_1 : Int) := pD
        have q108 : x8_1 < (l0.length : Int) := pD
        obtain ⟨ad108, e108, hx108_0⟩ := Kd.at_int HR0.out x8_1 p108 q108
        cases e108
        replace p108 := eq_true p108
        replace q108 := eq_true q108
        go_wp2
        go_ret
        exact ⟨by first | rfl | (simp; done) | (simp [*]; done), by repeat (first | exact Drawn0.refl _ | apply Drawn0.step)⟩
       ·rw [if_neg c6] at H
        have c6b0 : decide (64 < (rd l0 x8_1)) = false := decide_eq_false c6
        clear c6
        have H' := am H
        clear H
        have p108 : 0 ≤ (x8_1 : Int) := pD
        have q108 : x8_1 < (l0.length : Int) := pD
        obtain ⟨ad108, e108, hx108_0⟩ := Kd.at_int HR0.out x8_1 p108 q108
        cases e108
        replace p108 := eq_true p108
        replace q108 := eq_true q108
        go_wp2
        go_roundg k1
        case measure => have := HK1.out; omega
        case rel => exact ⟨(rd l0 x8_1), (wrap64 (x8_1 + 1)), (by first | rfl | (simp; done) | (simp [*]; done)), (by first | rfl | (simp; done) | (simp [*]; done)), H', ⟨by have := HK1.out; omega⟩, by repeat (first | exact Drawn0.refl _ | apply Drawn0.step)⟩
     ·rw [if_neg c4] at H
      exact absurd H (by simp)
    ·rw [if_neg c3] at H
     exact absurd H (by simp)
   ·rw [if_neg c2] at H
    have c2b0 : decide (x8_1 < (l0.length : Int)) = false := decide_eq_false c2
    clear c2
    obtain rfl := Option.some.inj H
    go_wp2
    go_ret
    exact ⟨by first | rfl | (simp; done) | (simp [*]; done), by repeat (first | exact Drawn0.refl _ | apply Drawn0.step)⟩
def code_Number.f (a0 : Int) : Option (Int × Int × ByteArray × (List (S26))) := some (0, a0, (⟨#[]⟩ : ByteArray), ([] : List (S26)))
set_option maxHeartbeats 8000000 in
set_option maxRecDepth 100000 in
theorem code_Number.calls (a0 : Int) (r1 : Int) (r2 : Int) (r3 : ByteArray) (r4 : List (S26)) (w : World) (h : code_Number.f a0 = some (r1, r2, r3, r4)) :
  Calls Tryd.prog 28 #[.int .u64 a0] w fun e w' => ∃ v3_ : Value, e = .returned (.agg #[.int .i64 r1, .int .u64 r2, .string r3, v3_]) ∧ Kd.R k26 26 w' w.heap.size (fun _ => True) v3_ r4 ∧ Below w.heap.size w w' := by
 have hu26 := Tryd.underlying26
 have HB := am (Below.refl w.heap.size w)
 have H : (some (0, a0, (⟨#[]⟩ : ByteArray), ([] : List (S26)))) = some (r1, r2, r3, r4) := h
 clear h
 simp only [Option.some.injEq, Prod.mk.injEq] at H
 obtain ⟨rfl, rfl, rfl, rfl⟩ := H
 go_enter Tryd.func28, Tryd.ntmps28
 go_wp2_with (first | ((with_reducible refine gate_dst (N := 2) rfl ?_); refine box_event ?hg (N := 2) ?hd (cs := #[.int .i64 0, .int .u64 0, .string (⟨#[]⟩ : ByteArray), .slice none 0 0]) (t := 26) ?hr ?_; (case hd => rfl); (case hg => rfl); (case hr => first | (go_simp; done) | (go_simp; rfl)); intro gb109 hg w2 hbox hb; have BK109 := am (hbox); have GW109 := am ((by rw [hg]; exact (below_size pB) : w.heap.size ≤ gb109)); have GE109 := am ((by rw [hg]; exact (below_size pB) : w.heap.size ≤ gb109)); replace HB := am (below_step pB hb); clear hb hbox hg; have q3 := cf4 BK109.out))
 refine bodyPost_ret (results_cell_row rfl _ _ gb109 26 #[.int .i64 0, .int .u64 a0, .string (⟨#[]⟩ : ByteArray), .slice none 0 0] (0, 0) _ rfl (by (iterate 2 ((with_reducible repeat (first | refine blk_drewN ?_ _ | refine blk_drew ?_ | refine blk_alloc ?_ _)); refine blk_put (cs := #[.int .i64 0, .int .u64 a0, .string (⟨#[]⟩ : ByteArray), .slice none 0 0]) ?_ _ _ rfl)); (with_reducible repeat (first | refine blk_drewN ?_ _ | refine blk_drew ?_ | refine blk_alloc ?_ _)); refine blk_put (cs := #[.int .i64 0, .int .u64 0, .string (⟨#[]⟩ : ByteArray), .slice none 0 0]) ?_ 1 _ rfl; (with_reducible repeat (first | refine blk_drewN ?_ _ | refine blk_drew ?_ | refine blk_alloc ?_ _)); refine blk_put (cs := #[.int .i64 0, .int .u64 0, .string (⟨#[]⟩ : ByteArray), .slice none 0 0]) ?_ 0 _ rfl; (with_reducible repeat (first | refine blk_drewN ?_ _ | refine blk_drew ?_ | refine blk_alloc ?_ _)); exact BK109.out) Tryd.underlying26 rfl (by kernel_rfl)) rfl ?_
 exact ⟨_, pE, pZ, pB⟩
def snap_members.l0 : Nat → List Int → Int → Int → Int → Int → ByteArray → List (S26) → Option (Int × Int × ByteArray × (List (S26)))
 | 0, _, _, _, _, _, _, _ => none
 | k + 1, x7, x8, x9, x112000, x112001, x112002, x112003 => if x9 < x8 then (if 0 ≤ x9 then (if x9 < (x7.length : Int) then ((code_Number.f (IntKind.u64.wrap (rd x7 x9))).bind fun bt113 => (if x112003.length < 2513169434916 then (snap_members.l0 k x7 x8 (wrap64 (x9 + 1)) x112000 x112001 x112002 (x112003 ++ [(⟨bt113.1, bt113.2.1, bt113.2.2.1, bt113.2.2.2⟩ : S26)])) else (none))) else (none)) else (none)) else (some (x112000, x112001, x112002, x112003))
def snap_members.f (k : Nat) (l0 : List Int) : Option (Int × Int × ByteArray × (List (S26))) := snap_members.l0 k l0 (l0.length : Int) 0 2 0 (⟨#[]⟩ : ByteArray) ([] : List (S26))
theorem snap_members.mono_l : ∀ k, (∀ y0 y1 y2 y3 y4 y5 y6, LeO (snap_members.l0 k y0 y1 y2 y3 y4 y5 y6) (snap_members.l0 (k + 1) y0 y1 y2 y3 y4 y5 y6))
 | 0 => fun _ _ _ _ _ _ _ r h => by simp [snap_members.l0] at h
 | k + 1 => by
  have ih0 := snap_members.mono_l k
  ·intro y0 y1 y2 y3 y4 y5 y6
   unfold snap_members.l0
   repeat' first
   | (with_reducible exact ih0 _ _ _ _ _ _ _)
   | (with_reducible exact LeO.refl _)
   | (with_reducible exact LeO.none _)
   | (with_reducible refine LeO.ite ?_ ?_)
   | (with_reducible refine LeO.bind ?_ (fun _ => ?_))
   | exact ih0 _ _ _ _ _ _ _
   | exact LeO.none _
   | refine LeO.ite ?_ ?_
   | refine LeO.bind ?_ (fun _ => ?_)
theorem snap_members.mono : ∀ a0 k, LeO (snap_members.f k a0) (snap_members.f (k + 1) a0) := by
 intro a0 k
 have ih0 := snap_members.mono_l k
 unfold snap_members.f
 repeat' first
   | (with_reducible exact ih0 _ _ _ _ _ _ _)
   | (with_reducible exact LeO.refl _)
   | (with_reducible exact LeO.none _)
   | (with_reducible refine LeO.ite ?_ ?_)
   | (with_reducible refine LeO.bind ?_ (fun _ => ?_))
   | exact ih0 _ _ _ _ _ _ _
   | exact LeO.none _
   | refine LeO.ite ?_ ?_
   | refine LeO.bind ?_ (fun _ => ?_)
def snap_members.T5 : Bool × List (List Nat × List Nat) := (true, [([], []), ([0], [0]), ([], []), ([2], [2]), ([3], [3]), ([4], [4]), ([1, 5, 4], [1, 5]), ([0, 1, 2, 3, 4, 5, 6], []), ([7, 6, 6, 0, 1, 2, 3, 4, 5, 6], [6, 7])])
def snap_members.B5 : List Nat := [0, 1, 0, 4, 12, 28, 63, 127, 255]
theorem snap_members.tab5 : rtab .any (opsOf Tryd.f29 5) = snap_members.T5 := by kernel_rfl
theorem snap_members.bits5 : waitsOk snap_members.T5.2 snap_members.B5 = true := by kernel_rfl
set_option maxHeartbeats 8000000 in
set_option maxRecDepth 100000 in
theorem snap_members.calls (k : Nat) (A0 : Option Addr) (c0 : Nat) (l0 : List Int) (r1 : Int) (r2 : Int) (r3 : ByteArray) (r4 : List (S26)) (w : World) (hr0 : Kd.C (Kd.int .i64) w A0 l0.length l0) (hc0 : l0.length ≤ c0) (h : snap_members.f k l0 = some (r1, r2, r3, r4)) :
  Calls Tryd.prog 29 #[.slice A0 l0.length c0] w fun e w' => ∃ v3_ : Value, e = .returned (.agg #[.int .i64 r1, .int .u64 r2, .string r3, v3_]) ∧ Kd.R k26 26 w' w.heap.size (fun _ => True) v3_ r4 ∧ Below w.heap.size w w' := by
 have hu26 := Tryd.underlying26
 have HR0 := am hr0
 have HC0 := am hc0
 clear hr0 hc0
 have HB := am (Below.refl w.heap.size w)
 have H : (snap_members.l0 k l0 (l0.length : Int) 0 2 0 (⟨#[]⟩ : ByteArray) ([] : List (S26))) = some (r1, r2, r3, r4) := h
 clear h
 have H' := am H
 clear H
 go_enter Tryd.func29, Tryd.ntmps29
 go_wp2_with (first | ((with_reducible refine gate_dst (N := 2) rfl ?_); refine box_event ?hg (N := 2) ?hd (cs := #[.int .i64 0, .int .u64 0, .string (⟨#[]⟩ : ByteArray), .slice none 0 0]) (t := 26) ?hr ?_; (case hd => rfl); (case hg => rfl); (case hr => first | (go_simp; done) | (go_simp; rfl)); intro gb110 hg w2 hbox hb; have BK110 := am (hbox); have GW110 := am ((by rw [hg]; exact (below_size pB) : w.heap.size ≤ gb110)); have GE110 := am ((by rw [hg]; exact (below_size pB) : w.heap.size ≤ gb110)); replace HB := am (below_step pB hb); clear hb hbox hg) | ((with_reducible refine gate_dst (N := 3) rfl ?_); refine box_event ?hg (N := 3) ?hd (cs := #[.int .i64 0, .int .u64 0, .string (⟨#[]⟩ : ByteArray), .slice none 0 0]) (t := 26) ?hr ?_; (case hd => rfl); (case hg => rfl); (case hr => first | (go_simp; done) | (go_simp; rfl)); intro gb111 hg w3 hbox hb; have BK111 := am (hbox); have GW111 := am ((by rw [hg]; exact (below_size pB) : w.heap.size ≤ gb111)); have GE111 := am ((by rw [hg]; exact (below_size pB) : w.heap.size ≤ gb111)); have NB110_111 := am ((by rw [hg]; exact Nat.ne_of_lt (pkl BK110.out) : gb110 ≠ gb111)); have NB111_110 := am ((by rw [hg]; exact Nat.ne_of_gt (pkl BK110.out) : gb111 ≠ gb110)); replace BK110 := am (pkb BK110.out hb); replace HB := am (below_step pB hb); clear hb hbox hg; have hnb4 := NB111_110.out; have hnc4 := NB110_111.out; have q5 := cf4 BK111.out))
 go_loopg [9] k (fun kq v9 w' => ∃ (x9_1 : Int) (x112003_1 : List (S26)) (u112003 : Value), v9 = .int .i64 x9_1 ∧ Aside0 (snap_members.l0 kq l0 (l0.length : Int) x9_1 2 0 (⟨#[]⟩ : ByteArray) x112003_1 = some (r1, r2, r3, r4)) ∧ Aside0 (kq ≤ k) ∧ Aside0 (Kd.R k26 26 w' w.heap.size (fun k_ => k_ ≠ gb110 ∧ k_ ≠ gb111) u112003 x112003_1) ∧ Aside0 (w'.heap[gb110]? = some (.cells #[.int .i64 0, .int .u64 0, .string (⟨#[]⟩ : ByteArray), (.slice none 0 0)] 26 (0, 0))) ∧ Aside0 (w'.heap[gb111]? = some (.cells #[.int .i64 2, .int .u64 0, .string (⟨#[]⟩ : ByteArray), u112003] 26 (0, 0))) ∧ Aside0 (Below w.heap.size w w'))
 case atStart => exact ⟨(0), (([] : List (S26))), (.slice none 0 0), (by first | rfl | (simp; done) | (simp [*]; done)), H', ⟨Nat.le_refl _⟩, ⟨pZ⟩, ⟨by (with_reducible repeat (first | refine blk_drewN ?_ _ | refine blk_drew ?_ | refine blk_alloc ?_ _)); refine blk_far ?_ NB110_111.out _; (with_reducible repeat (first | refine blk_drewN ?_ _ | refine blk_drew ?_ | refine blk_alloc ?_ _)); refine blk_far ?_ NB110_111.out _; (with_reducible repeat (first | refine blk_drewN ?_ _ | refine blk_drew ?_ | refine blk_alloc ?_ _)); refine blk_far ?_ NB110_111.out _; (with_reducible repeat (first | refine blk_drewN ?_ _ | refine blk_drew ?_ | refine blk_alloc ?_ _)); refine blk_far ?_ NB110_111.out _; (with_reducible repeat (first | refine blk_drewN ?_ _ | refine blk_drew ?_ | refine blk_alloc ?_ _)); exact BK110.out⟩, ⟨by (iterate 3 ((with_reducible repeat (first | refine blk_drewN ?_ _ | refine blk_drew ?_ | refine blk_alloc ?_ _)); refine blk_put (cs := #[.int .i64 2, .int .u64 0, .string (⟨#[]⟩ : ByteArray), .slice none 0 0]) ?_ _ _ rfl)); (with_reducible repeat (first | refine blk_drewN ?_ _ | refine blk_drew ?_ | refine blk_alloc ?_ _)); refine blk_put (cs := #[.int .i64 0, .int .u64 0, .string (⟨#[]⟩ : ByteArray), .slice none 0 0]) ?_ 0 _ rfl; (with_reducible repeat (first | refine blk_drewN ?_ _ | refine blk_drew ?_ | refine blk_alloc ?_ _)); exact BK111.out⟩, ⟨pB⟩⟩
 case round =>
  clear H'
  try clear c2
  try clear p2
  try clear c4
  try clear q5
  obtain ⟨x9_1, x112003_1, u112003, rfl, HA, HK1, HO_112003, BK110, BK111, HB⟩ := hrel
  cases gk with
  | zero => exact absurd HA.out (by simp [snap_members.l0])
  | succ k1 =>
   have H := HA.out
   clear HA
   simp only [snap_members.l0] at H
   by_cases c6 : x9_1 < (l0.length : Int)
   ·rw [if_pos c6] at H
    have c6b0 : decide (x9_1 < (l0.length : Int)) = true := decide_eq_true c6
    clear c6
    by_cases c7 : 0 ≤ x9_1
    ·rw [if_pos c7] at H
     have c7b0 : decide (0 ≤ x9_1) = true := decide_eq_true c7
     clear c7
     by_cases c8 : x9_1 < (l0.length : Int)
     ·rw [if_pos c8] at H
      have c8b0 : decide (x9_1 < (l0.length : Int)) = true := decide_eq_true c8
      clear c8
      replace H := Option.bind_eq_some_iff.mp H
      obtain ⟨⟨t113, t114, t115, t116⟩, A90, H⟩ := H
      try dsimp only at H
      have A9 := am A90
      clear A90
      by_cases c10 : x112003_1.length < 2513169434916
      ·rw [if_pos c10] at H
       have LMc10 := am c10
       clear c10
       obtain ⟨y119, hy119⟩ : ∃ y_ : List (S26), y_ = (x112003_1 ++ [(⟨t113, t114, t115, t116⟩ : S26)]) := ⟨_, rfl⟩
       replace H : (snap_members.l0 k1 l0 (l0.length : Int) (wrap64 (x9_1 + 1)) 2 0 (⟨#[]⟩ : ByteArray) y119) = some (r1, r2, r3, r4) := by first | (rw [hy119]; with_reducible exact H) | (have H2_ := (Option.bind_some _ _).symm.trans H; rw [hy119]; with_reducible exact H2_) | (have H2_ := (Option.bind_some _ _).symm.trans H; with_reducible exact H2_) | with_reducible exact H | (rw [hy119]; exact H) | exact H
       have Ny119 := am hy119
       clear hy119
       have H' := am H
       clear H
       have p112 : 0 ≤ (x9_1 : Int) := pD
       have q112 : x9_1 < (l0.length : Int) := pD
       obtain ⟨ad112, e112, hx112_0⟩ := Kd.at_int HR0.out x9_1 p112 q112
       cases e112
       replace hx112_0 := (HB.out.cell (World.block_lt_of_cell? w _ hx112_0)).trans hx112_0
       replace p112 := eq_true p112
       replace q112 := eq_true q112
       try go_wp2
       replace HO_112003 := am (Kd.R_drew HO_112003.out)
       replace BK110 := am (blk_drew BK110.out)
       replace BK111 := am (blk_drew BK111.out)
       replace HB := am (below_drew1 HB.out)
       refine start_ (n := 9) (S := fun w' => w'.cell? ⟨gb111, 0, none⟩ = some (.int .i64 2) ∧ w'.cell? ⟨gb111, 1, none⟩ = some (.int .u64 0) ∧ w'.cell? ⟨gb111, 2, none⟩ = some (.string (⟨#[]⟩ : ByteArray)) ∧ w'.cell? ⟨gb111, 3, none⟩ = some (u112003)) (ds := [8]) (bm 9 0) (by kernel_rfl) rfl rfl ⟨cz0 BK111.out, cz1 BK111.out, cz2 BK111.out, cz3 BK111.out⟩ (fun hHeld => ?_); refine with_tabW snap_members.tab5 snap_members.bits5 (fun HT_ HW_ => ?_)
       generalize wr.drew = w11 at HO_112003 BK110 BK111 HB hHeld ⊢
       refine pure_ (i := 0) (N := some 13) (v := ?_) (a' := ?_) (bm 9 1) rfl rfl (any_of HT_.out (by kernel_rfl)) (fun _ _ _ h => h) (Or.inl ⟨by kernel_rfl, ?_⟩) ?_ ?_
       rotate_left
       ·intro w'
        go_simp
        with_reducible rfl
       rotate_left
       ·exact pA
       refine pure_ (i := 2) (N := some 15) (v := ?_) (a' := ?_) (bm 9 5) rfl rfl (any_of HT_.out (by kernel_rfl)) (fun _ _ _ h => h) (Or.inl ⟨by kernel_rfl, ?_⟩) ?_ ?_
       rotate_left
       ·intro w'
        go_simp
        with_reducible rfl
       rotate_left
       ·exact pA
       refine pure_ (i := 3) (N := some 16) (v := ?_) (a' := ?_) (bm 9 13) rfl rfl (any_of HT_.out (by kernel_rfl)) (fun _ _ _ h => h) (Or.inl ⟨by kernel_rfl, ?_⟩) ?_ ?_
       rotate_left
       ·intro w'
        go_simp
        with_reducible rfl
       rotate_left
       ·exact pA
       refine take_ (i := 1) (N := some 14) (v := ?_) (a' := ?_) (bm 9 15) rfl rfl (take_ofW HT_.out HW_.out (by kernel_rfl)) (fun _ _ _ h => h) (Or.inl ⟨by kernel_rfl, ?_⟩) hHeld ?_ ?_
       rotate_left
       ·rintro w' ⟨s0, s1, s2, s3⟩
        go_simp
        with_reducible rfl
       rotate_left
       ·exact pA
       refine one_ (i := 4) (N := some 17) (bm 9 31) rfl rfl (one_of HT_.out (by kernel_rfl)) (by decide) (fun K hK => ?_)
       refine goes_ Tryd.func28 (by kernel_rfl) rfl #[.int .u64 (IntKind.u64.wrap (rd l0 x9_1))] (by rfl) rfl rfl pM ?_
       with_reducible refine (code_Number.calls (IntKind.u64.wrap (rd l0 x9_1)) t113 t114 t115 t116 _ A9.out).mono ?_
       rintro e w12 ⟨v117, rfl, ho0, hb⟩
       refine ⟨_, rfl, ?_⟩
       have n0_ := am (Kd.R_elder' (pR HO_112003.out) (Kd.R_base ho0) hb)
       have n1_ := am (Kd.R_lower (Kd.R_newB (Kd.R_newB (Kd.R_new' ho0 (Kd.R_lt (pR HO_112003.out))) (g := gb110) (o := .cells #[.int .i64 0, .int .u64 0, .string (⟨#[]⟩ : ByteArray), .slice none 0 0] 26 (0, 0)) (pK BK110.out)) (g := gb111) (o := .cells #[.int .i64 2, .int .u64 0, .string (⟨#[]⟩ : ByteArray), u112003] 26 (0, 0)) (pK BK111.out)) (below_size pB))
       have n2_ := am (pkb BK110.out hb)
       have n3_ := am (pkb BK111.out hb)
       have n4_ := am (below_step pB hb)
       clear HO_112003 BK110 BK111 HB; have HO_112003 := n0_; have HO118 := n1_; have BK110 := n2_; have BK111 := n3_; have HB := n4_; clear n0_ n1_ n2_ n3_ n4_; (try clear hb); (try clear hb2); (try clear hk); (try clear hi); (try clear ho0)
       obtain ⟨Ao14, co14, eo14⟩ := Kd.R_slice HO118.out
       (first | subst eo14 | (injection eo14 with f1_ f2_ f3_; have f4_ := f1_.symm; have f5_ := f3_.symm; clear f1_ f2_ f3_; subst f4_; subst f5_))
       refine hK.out _ _ ⟨cz0 BK111.out, cz1 BK111.out, cz2 BK111.out, cz3 BK111.out⟩ (fun hHeld => ?_)
       clear hK K
       refine norm_ (a' := ?_) ?_ ?_
       rotate_left
       ·show Act.put _ (some 17) _ = _
        exact pA
       refine one_ (i := 5) (N := some 18) (bm 9 63) rfl rfl (one_of HT_.out (by kernel_rfl)) (by decide) (fun K hK => ?_)
       refine value_ (w1 := ?_) (v := ?_) (by rfl) rfl ?_ ?_
       rotate_left 2
       ·go_simp
        constructor
        ·rfl
        ·rfl
       refine hK.out _ _ ⟨(blk_cell (blk_alloc BK111.out _) 0).trans rfl, (blk_cell (blk_alloc BK111.out _) 1).trans rfl, (blk_cell (blk_alloc BK111.out _) 2).trans rfl, (blk_cell (blk_alloc BK111.out _) 3).trans rfl⟩ (fun hHeld => ?_)
       clear hK K
       refine norm_ (a' := ?_) ?_ ?_
       rotate_left
       ·show Act.put _ (some 18) _ = _
        exact pA
       refine one_ (i := 6) (N := some 19) (bm 9 127) rfl rfl (one_of HT_.out (by kernel_rfl)) (by decide) (fun K hK => ?_)
       refine Kd.R_append_step k26 (w0 := w) w.heap.size (by rfl) (.tmp 14) (.tmp 18) 24 26 (.agg #[(.int .i64 0), (.int .u64 0), (.string ⟨#[]⟩), (.slice none 0 0)]) 56 rfl Tryd.underlying24 info26 rfl (by decide) (by omega) u112003 x112003_1 (⟨t113, t114, t115, t116⟩ : S26) [.int .i64 t113, .int .u64 t114, .string t115, .slice Ao14 t116.length co14] (fun k_ => k_ ≠ gb110 ∧ k_ ≠ gb111) (fun k_ => ((fun k_ => k_ ≠ gb110 ∧ k_ ≠ gb111)) k_ ∧ some k_ ≠ (u112003 : Value).ownBlock) rfl rfl ?aP (fun _ hk => hk) ?aF ?aO ?aB ?aS ?aL ?_
       (case aP => exact k26_mkM _ _ _ (⟨t113, t114, t115, t116⟩ : S26) (Kd.R_mono (HO118.out) (fun k_ hk => ⟨⟨hk.1.2, hk.2⟩, hk.1.1.2⟩)))
       (case aB => exact pB)
       (case aF => exact (fun k_ hk => ⟨Kd.freshB (g := gb110) (o := .cells #[.int .i64 0, .int .u64 0, .string (⟨#[]⟩ : ByteArray), .slice none 0 0] 26 (0, 0)) (pK BK110.out) k_ hk, Kd.freshB (g := gb111) (o := .cells #[.int .i64 2, .int .u64 0, .string (⟨#[]⟩ : ByteArray), u112003] 26 (0, 0)) (pK BK111.out) k_ hk⟩))
       (case aO => exact (by (with_reducible repeat (first | apply Kd.R_alloc | apply Kd.R_drewN | apply Kd.R_drew)); exact Kd.R_mono HO_112003.out (fun _ hk => ⟨hk.1.1, hk.1.2⟩)))
       (case aS => exact (below_size pB))
       (case aL => have := LMc10.out; omega)
       intro v120 w13 ho hb hg hat
       rw [← Ny119.out] at ho
       have n0_ := am (blk_grown (g := gb110) (o := .cells #[.int .i64 0, .int .u64 0, .string (⟨#[]⟩ : ByteArray), .slice none 0 0] 26 (0, 0)) (pK BK110.out) hg (Kd.R_away HO_112003.out (fun _ hk => hk.1.1)))
       have n1_ := am (blk_grown (g := gb111) (o := .cells #[.int .i64 2, .int .u64 0, .string (⟨#[]⟩ : ByteArray), u112003] 26 (0, 0)) (pK BK111.out) hg (Kd.R_away HO_112003.out (fun _ hk => hk.1.2)))
       have n2_ := am (hb)
       have n3_ := am (ho)
       clear BK110 BK111 HB HO_112003 HO118; have BK110 := n0_; have BK111 := n1_; have HB := n2_; have HO121 := n3_; clear n0_ n1_ n2_ n3_ ho hb hg hat
       obtain ⟨Ao15, co15, eo15⟩ := Kd.R_slice HO121.out
       (first | subst eo15 | (injection eo15 with f1_ f2_ f3_; have f4_ := f1_.symm; have f5_ := f3_.symm; clear f1_ f2_ f3_; subst f4_; subst f5_))
       refine hK.out _ _ ⟨cz0 BK111.out, cz1 BK111.out, cz2 BK111.out, cz3 BK111.out⟩ (fun hHeld => ?_)
       clear hK K
       refine norm_ (a' := ?_) ?_ ?_
       rotate_left
       ·show Act.put _ (some 19) _ = _
        exact pA
       refine pure_ (i := 7) (N := some 20) (v := ?_) (a' := ?_) (bm 9 255) rfl rfl (any_of HT_.out (by kernel_rfl)) (fun _ _ _ h => h) (Or.inl ⟨by kernel_rfl, ?_⟩) ?_ ?_
       rotate_left
       ·intro w'
        go_simp
        with_reducible rfl
       rotate_left
       ·exact pA
       refine last_ (i := 8) (N := none) (bm 9 511) rfl rfl (one_of HT_.out (by kernel_rfl)) (by decide) (fun K hK => ?_)
       have hs16 : w13.cell? ⟨gb111, 3, none⟩ = some (u112003) := cz3 BK111.out
       have hfs16 := blk_frozen BK111.out 3
       have hns16_0 := NB110_111.out
       have hms16_0 := NB111_110.out
       refine skip_ (w1 := ?_) ?hw rfl ?_ ?_; (case hw => kernel_rfl)
       rotate_left
       ·go_simp
        rfl
       refine hK.out _ _ ?_
       clear hK K
       refine done_ (done_of HT_.out (by kernel_rfl)) ?_
       try go_wp2
       go_roundg k1
       case measure => have := HK1.out; omega
       case rel => exact ⟨(wrap64 (x9_1 + 1)), (y119), (.slice Ao15 y119.length co15), (by first | rfl | (simp; done) | (simp [*]; done)), H', ⟨by have := HK1.out; omega⟩, ⟨by (with_reducible repeat (first | apply Kd.R_alloc | apply Kd.R_drewN | apply Kd.R_drew)); exact Kd.R_mono (Kd.R_far (p := ⟨gb111, 3, none⟩) (Kd.R_mono HO121.out (fun k_ hk => (⟨hk, hk.2⟩ : _ ∧ k_ ≠ gb111))) (fun _ hk => hk.2) (.slice Ao15 y119.length co15)) (fun _ hk => ⟨hk.1.1, hk.1.2⟩)⟩, ⟨by (with_reducible repeat (first | refine blk_drewN ?_ _ | refine blk_drew ?_ | refine blk_alloc ?_ _)); refine blk_far ?_ NB110_111.out _; (with_reducible repeat (first | refine blk_drewN ?_ _ | refine blk_drew ?_ | refine blk_alloc ?_ _)); exact BK110.out⟩, ⟨by (with_reducible repeat (first | refine blk_drewN ?_ _ | refine blk_drew ?_ | refine blk_alloc ?_ _)); refine blk_put (cs := #[.int .i64 2, .int .u64 0, .string (⟨#[]⟩ : ByteArray), u112003]) ?_ 3 _ rfl; (with_reducible repeat (first | refine blk_drewN ?_ _ | refine blk_drew ?_ | refine blk_alloc ?_ _)); exact BK111.out⟩, ⟨pB⟩⟩
      ·rw [if_neg c10] at H
       exact absurd H (by simp)
     ·rw [if_neg c8] at H
      exact absurd H (by simp)
    ·rw [if_neg c7] at H
     exact absurd H (by simp)
   ·rw [if_neg c6] at H
    have c6b0 : decide (x9_1 < (l0.length : Int)) = false := decide_eq_false c6
    clear c6
    simp only [Option.some.injEq, Prod.mk.injEq] at H
    obtain ⟨rfl, rfl, rfl, rfl⟩ := H
    have hnb17 := NB111_110.out
    have hnc17 := NB110_111.out
    have q18 := cf4 BK111.out
    have q19 := cf4 BK110.out
    obtain ⟨Ao20, co20, eo20⟩ := Kd.R_slice HO_112003.out
    subst eo20
    go_wp2
    refine bodyPost_ret (results_cell_row rfl _ _ gb110 26 #[.int .i64 2, .int .u64 0, .string (⟨#[]⟩ : ByteArray), .slice Ao20 x112003_1.length co20] (0, 0) _ rfl (by (iterate 3 ((with_reducible repeat (first | refine blk_drewN ?_ _ | refine blk_drew ?_ | refine blk_alloc ?_ _)); refine blk_put (cs := #[.int .i64 2, .int .u64 0, .string (⟨#[]⟩ : ByteArray), .slice none 0 0]) ?_ _ _ rfl)); (with_reducible repeat (first | refine blk_drewN ?_ _ | refine blk_drew ?_ | refine blk_alloc ?_ _)); refine blk_put (cs := #[.int .i64 0, .int .u64 0, .string (⟨#[]⟩ : ByteArray), .slice none 0 0]) ?_ 0 _ rfl; (with_reducible repeat (first | refine blk_drewN ?_ _ | refine blk_drew ?_ | refine blk_alloc ?_ _)); exact BK110.out) Tryd.underlying26 rfl (by kernel_rfl)) rfl ?_
    exact ⟨_, pE, by (with_reducible repeat (first | apply Kd.R_alloc | apply Kd.R_drewN | apply Kd.R_drew)); exact Kd.R_mono (Kd.R_far (p := ⟨gb110, 3, none⟩) (Kd.R_far (p := ⟨gb110, 2, none⟩) (Kd.R_far (p := ⟨gb110, 1, none⟩) (Kd.R_far (p := ⟨gb110, 0, none⟩) (Kd.R_mono HO_112003.out (fun k_ hk => (⟨hk, hk.1⟩ : _ ∧ k_ ≠ gb110))) (fun _ hk => hk.2) (.int .i64 2)) (fun _ hk => hk.2) (.int .u64 0)) (fun _ hk => hk.2) (.string (⟨#[]⟩ : ByteArray))) (fun _ hk => hk.2) (.slice Ao20 x112003_1.length co20)) (fun _ hk => trivial), pB⟩
end Go.Proofs.YtlkaffbgekbcfaaDoor.Pr
end
