/- The laid table of orders: what its condition says of the memory. -/
import Derived.Test.YtlhnkfheojlghaaDoorOf
import Derived.Lib.LaidTab
import Derived.OpenShut
import Derived.ChangeArms
namespace Go.Proofs.YtlhnkfheojlghaaDoor.Pr
open Go.RowKit
set_option linter.unusedVariables false
set_option linter.unusedSimpArgs false
def ordData {H : Type} (zs : List S63) : DataW H := .agg (zs.map fun z => .agg [.lit (.string z.f0.data.toList), .lit (.string z.f1.data.toList), .lit (.int .i64 z.f2)])
theorem bytes_inj {a b : ByteArray} (h : a.data.toList = b.data.toList) : a = b := by
  cases a; cases b
  congr 1
  exact Array.toList_inj.1 h
set_option maxRecDepth 100000 in
theorem cells_of_ords {H : Type} {enc : TypeId × Value → H} {w : World} {base : Nat} {sp : Nat → Bool} {held : Bool} {fuel : Nat} {cs : List Value} {zs : List S63} {p : List MemPlace}
    (h : DataW.trod enc Tryd.prog w base sp held fuel 91 cs = some (ordData zs, p)) (i : Nat) (hi : i < 38) (z : S63) (hz : zs[i]? = some z) :
    cs[i * 3]? = some (.string z.f0) ∧ cs[i * 3 + 1]? = some (.string z.f1) ∧ cs[i * 3 + 2]? = some (.int .i64 z.f2) := by
  have hce : Tryd.prog.cellsOf 63 = 3 := by kernel_rfl
  have hct : Tryd.prog.cellsOf 91 = 114 := by kernel_rfl
  cases fuel with
  | zero => simp [DataW.trod] at h
  | succ fuel =>
    simp only [DataW.trod, Tryd.underlying91, hce, hct] at h
    split at h
    · rename_i hl
      obtain ⟨xs, hm, hx⟩ := Option.map_eq_some_iff.1 h
      have hxs : xs.map (·.1) = zs.map fun z => (DataW.agg [.lit (.string z.f0.data.toList), .lit (.string z.f1.data.toList), .lit (.int .i64 z.f2)] : DataW H) := by
        have := congrArg Prod.fst hx
        simpa [ordData] using this
      obtain ⟨b, hb, hf⟩ := Lib.mapM_at hm i i (by simp [hi])
      have hb1 : b.1 = (DataW.agg [.lit (.string z.f0.data.toList), .lit (.string z.f1.data.toList), .lit (.int .i64 z.f2)] : DataW H) := by
        have h2 : (xs.map (·.1))[i]? = some b.1 := by simp [hb]
        rw [hxs] at h2
        simp only [List.getElem?_map, hz, Option.map_some, Option.some.injEq] at h2
        exact h2.symm
      obtain ⟨ys, n, hn, hy, hl2, hlen, hf2⟩ := DataW.trod_struct Tryd.underlying63 hf
      have hyl : ys.length = 3 := hlen
      obtain ⟨y0, y1, y2, rfl⟩ : ∃ y0 y1 y2, ys = [y0, y1, y2] := by
        match ys, hyl with
        | [a, b, c], _ => exact ⟨a, b, c, rfl⟩
      rw [hy] at hb1
      simp only [List.map_cons, List.map_nil, DataW.agg.injEq, List.cons.injEq, and_true] at hb1
      have hc : ∀ k, k < 3 → cs[i * 3 + k]? = (List.take 3 (List.drop (i * 3) cs))[k]? := fun k hk => by
        rw [List.getElem?_take, if_pos hk, List.getElem?_drop]
      rw [show Tryd.prog.cellsOf 63 = 3 by kernel_rfl] at hl2
      generalize List.take 3 (List.drop (i * 3) cs) = c3 at hc hf2 hl2
      obtain ⟨v0, v1, v2, rfl⟩ : ∃ v0 v1 v2, c3 = [v0, v1, v2] := by
        match c3, hl2 with
        | [a, b, c], _ => exact ⟨a, b, c, rfl⟩
      have g0 : DataW.trod enc Tryd.prog w base sp held n 9 [v0] = some y0 := hf2 0 _ rfl
      have g1 : DataW.trod enc Tryd.prog w base sp held n 9 [v1] = some y1 := hf2 1 _ rfl
      have g2 : DataW.trod enc Tryd.prog w base sp held n 3 [v2] = some y2 := hf2 2 _ rfl
      obtain ⟨s0, e0, hs0, _⟩ := DataW.trod_string Tryd.underlying9 g0
      obtain ⟨s1, e1, hs1, _⟩ := DataW.trod_string Tryd.underlying9 g1
      obtain ⟨s2, e2, hs2, _⟩ := DataW.trod_int Tryd.underlying3 g2
      injection e0 with e0 _
      injection e1 with e1 _
      injection e2 with e2 _
      rw [hs0] at hb1
      rw [hs1] at hb1
      rw [hs2] at hb1
      simp only [DataW.lit.injEq, Lit.string.injEq, Lit.int.injEq, true_and] at hb1
      obtain ⟨q0, q1, q2⟩ := hb1
      obtain rfl := bytes_inj q0
      obtain rfl := bytes_inj q1
      subst q2
      exact ⟨by rw [← Nat.add_zero (i * 3), hc 0 (by omega), e0]; rfl, by rw [hc 1 (by omega), e1]; rfl, by rw [hc 2 (by omega), e2]; rfl⟩
    · cases h
theorem tabLaid_of_head {W : World} {rest : List (String × DataW Unit)} (h : laidMet Tryd.prog (("minstrel/prog.orders", ordData ordersL) :: rest) W) : TabLaid W := by
  have hg : Tryd.prog.globalNamed "minstrel/prog.orders" = some 0 := by kernel_rfl
  have hty : (Tryd.prog.globals[0]?).map (·.type) = some 91 := by kernel_rfl
  obtain ⟨ps, ⟨g', t', cs, fuel, p, q, hg', ht', hvar, hd, _, _⟩, _⟩ := h
  obtain rfl := Option.some.inj (hg.symm.trans hg')
  obtain rfl := Option.some.inj (hty.symm.trans ht')
  intro i hi
  have hz : ordersL[i]? = some (ordersL.getD i z63) := by
    have hl : i < ordersL.length := by simpa [ordersL] using hi
    simp [List.getD, hl]
  obtain ⟨h0, h1, h2⟩ := cells_of_ords hd i hi _ hz
  rw [Array.getElem?_toList] at h0 h1 h2
  exact ⟨(World.var?_cell hg hvar _).trans h0, (World.var?_cell hg hvar _).trans h1, (World.var?_cell hg hvar _).trans h2⟩
end Go.Proofs.YtlhnkfheojlghaaDoor.Pr
