/- slices.EqualFunc over code.same, code.same and code.Same: contracts of their calls. -/
import Derived.Test.YtjcaieecafggiaaOwn
namespace Go.Proofs.Ytjcaieecafggiaa.Pr
open Go.RowKit Go.Proofs.YtjcaieecafggiaaW.PrintWords Go.Proofs.YtjcaieecafggiaaW.PrintLast Go.Proofs.YtjcaieecafggiaaW.PrintMore
set_option linter.unusedVariables false
set_option linter.unusedSimpArgs false
/-- Both, one behind the other, till two differ. -/
def allC {α : Type} (f : α → α → Option Bool) : List α → List α → Option Bool
  | x :: xs, y :: ys => (f x y).bind fun r => if r then allC f xs ys else some false
  | _, _ => some true
def sameC : Nat → S26 → S26 → Option Bool
  | 0, _, _ => none
  | k + 1, a, b =>
    if a.f0 = b.f0 then
      if a.f0 = 0 then some (a.f1 == b.f1)
      else if a.f0 = 1 then some (a.f2.toList == b.f2.toList)
      else if a.f0 = 2 then if a.f3.length = b.f3.length then allC (sameC k) a.f3 b.f3 else some false
      else some true
    else some false
set_option maxHeartbeats 1600000 in
set_option maxRecDepth 100000 in
theorem equal_step (k : Nat) (ih : ∀ (a b : S26) (A3 : Option Addr) (c3 : Nat) (B3 : Option Addr) (d3 : Nat) (w : World) (r : Bool), Kd.C k26 w A3 a.f3.length a.f3 → Kd.C k26 w B3 b.f3.length b.f3 → sameC k a b = some r →
      Calls Try.prog 31 #[.agg #[.int .i64 a.f0, .int .u64 a.f1, .string a.f2, .slice A3 a.f3.length c3], .agg #[.int .i64 b.f0, .int .u64 b.f1, .string b.f2, .slice B3 b.f3.length d3]] w fun e w' => e = .returned (.bool r) ∧ Below w.heap.size w w')
    (A : Option Addr) (c : Nat) (B : Option Addr) (d : Nat) (L M : List S26) (w : World) (r : Bool) (hA : Kd.C k26 w A L.length L) (hB : Kd.C k26 w B M.length M)
    (hz : (if L.length = M.length then allC (sameC k) L M else some false) = some r) :
    Calls Try.prog 40 #[.slice A L.length c, .slice B M.length d, .func (.func 31) #[] #[]] w fun e w' => e = .returned (.bool r) ∧ Below w.heap.size w w' := by
  have hla := hA.2.1
  by_cases hlen : L.length = M.length
  · rw [if_pos hlen] at hz
    have b0 : ((L.length : Int) == (M.length : Int)) = true := beq_iff_eq.mpr (by omega)
    have b1 : ((L.length : Int) != (M.length : Int)) = false := bne_eq_false_iff_eq.mpr (by omega)
    have HL := Aside0.mk hlen
    have HZ := Aside0.mk hz
    have HA := Aside0.mk hA
    have HB := Aside0.mk hB
    have IH := Aside0.mk ih
    clear ih hA hB hz hlen
    go_enter Try.func40, Try.ntmps40
    go_wp2_with fail
    have HS : Aside0 (allC (sameC k) (L.drop (0 : Int).toNat) (M.drop (0 : Int).toNat) = some r) := HZ
    clear HZ
    go_loopg [17] L.length (fun kq s17 wr => ∃ I : Int, s17 = .int .i64 I ∧ Aside0 (0 ≤ I ∧ I ≤ L.length ∧ (L.length : Int) - I = kq) ∧ Aside0 (allC (sameC k) (L.drop I.toNat) (M.drop I.toNat) = some r) ∧ Aside0 (Below w.heap.size w wr))
    case atStart => exact ⟨0, rfl, ⟨by omega, by omega, by omega⟩, HS, ⟨Below.refl _ _⟩⟩
    case round =>
      clear HS
      obtain ⟨I, rfl, HI, HF, HBW⟩ := hrel
      by_cases hlt : I < (L.length : Int)
      · have hltM : I < (M.length : Int) := by rw [← HL.out]; exact hlt
        have p0 : (0 ≤ I) = True := eq_true HI.out.1
        have q0 : (I < (L.length : Int)) = True := eq_true hlt
        have q1 : (I < (M.length : Int)) = True := eq_true hltM
        have d0 : decide (I < (L.length : Int)) = true := decide_eq_true hlt
        obtain ⟨ad, Ax, cx, eA, hx0, hx1, hx2, hx3, hlx, hix⟩ := at_T26 HA.out I HI.out.1 hlt
        obtain ⟨bd, Bx, dx, eB, hy0, hy1, hy2, hy3, hly, hiy⟩ := at_T26 HB.out I HI.out.1 hltM
        replace hx0 := pw_cell_below HBW.out hx0
        replace hx1 := pw_cell_below HBW.out hx1
        replace hx2 := pw_cell_below HBW.out hx2
        replace hx3 := pw_cell_below HBW.out hx3
        replace hy0 := pw_cell_below HBW.out hy0
        replace hy1 := pw_cell_below HBW.out hy1
        replace hy2 := pw_cell_below HBW.out hy2
        replace hy3 := pw_cell_below HBW.out hy3
        have hyb : (bd.add (I.toNat * 4)).block < wr.heap.size := World.block_lt_of_cell? wr _ hy0
        have HIX := Aside0.mk (Kd.C_below hix HBW.out)
        have HIY := Aside0.mk (Kd.C_below hiy HBW.out)
        have hf := HF.out
        rw [drop_rd L I HI.out.1 hlt, drop_rd M I HI.out.1 hltM, allC] at hf
        obtain ⟨r1, hr1, hf2⟩ := Option.bind_eq_some_iff.mp hf
        have HR1 := Aside0.mk hr1
        have HF2 := Aside0.mk hf2
        cases eA
        cases eB
        clear hlt hltM hix hiy hlx hly hf hr1 hf2 HF
        go_wp2_with fail
        refine (IH.out (rd_T26 L I) (rd_T26 M I) Ax cx Bx dx _ r1 (Kd.C_alloc (Kd.C_alloc HIX.out _) _) (Kd.C_alloc (Kd.C_alloc HIY.out _) _) HR1.out).mono ?_
        rintro e w4 ⟨rfl, hb⟩
        have HB4 := Aside0.mk (HBW.out.trans ((below_alloc (below_alloc (Below.refl wr.heap.size wr) _) _ |>.trans (hb.mono (by simp; omega))).mono HBW.out.size))
        have hf2 := HF2.out
        clear hb hx0 hx1 hx2 hx3 hy0 hy1 hy2 hy3
        cases r1 with
        | true =>
          rw [if_pos rfl] at hf2
          have HF3 := Aside0.mk hf2
          have hw1' : wrap64 (I + 1) = I + 1 := by unfold wrap64; have := HI.out; have := of_eq_true q0; omega
          have HW1' := Aside0.mk hw1'
          clear hf2 HF2 hw1'
          go_wp2
          go_roundg (L.length - (I + 1).toNat)
          case measure => have := HI.out; have := of_eq_true q0; omega
          case rel =>
            have hq := of_eq_true q0
            have hi0 := HI.out.1
            have g0 : 0 ≤ I + 1 := by omega
            have g1 : I + 1 ≤ (L.length : Int) := by omega
            have g2 : (L.length : Int) - (I + 1) = ((L.length - (I + 1).toNat : Nat) : Int) := by omega
            exact ⟨I + 1, by first | rfl | rw [HW1'.out], ⟨g0, g1, g2⟩, HF3, HB4⟩
        | false =>
          rw [if_neg (by decide)] at hf2
          obtain rfl := Option.some.inj hf2
          clear HF2
          go_wp2
          go_ret
          exact ⟨rfl, HB4.out⟩
      · have d0 : decide (I < (L.length : Int)) = false := decide_eq_false hlt
        have hf := HF.out
        rw [List.drop_eq_nil_of_le (by omega), allC] at hf
        · obtain rfl := Option.some.inj hf
          clear hlt HF
          go_wp2
          go_ret
          exact ⟨rfl, HBW.out⟩
        · intro x xs y ys h
          cases h
  · rw [if_neg hlen] at hz
    have b0 : ((L.length : Int) == (M.length : Int)) = false := beq_eq_false_iff_ne.mpr (by omega)
    have b1 : ((L.length : Int) != (M.length : Int)) = true := bne_iff_ne.mpr (by omega)
    obtain rfl := Option.some.inj hz
    clear ih hA hB hz hlen
    go_enter Try.func40, Try.ntmps40
    go_wp2
    go_ret
    exact ⟨rfl, Below.refl _ _⟩
set_option maxHeartbeats 1600000 in
set_option maxRecDepth 100000 in
theorem same_step (k : Nat) (ih : ∀ (a b : S26) (A3 : Option Addr) (c3 : Nat) (B3 : Option Addr) (d3 : Nat) (w : World) (r : Bool), Kd.C k26 w A3 a.f3.length a.f3 → Kd.C k26 w B3 b.f3.length b.f3 → sameC k a b = some r →
      Calls Try.prog 31 #[.agg #[.int .i64 a.f0, .int .u64 a.f1, .string a.f2, .slice A3 a.f3.length c3], .agg #[.int .i64 b.f0, .int .u64 b.f1, .string b.f2, .slice B3 b.f3.length d3]] w fun e w' => e = .returned (.bool r) ∧ Below w.heap.size w w')
    (K N : Int) (S : ByteArray) (L : List S26) (K' N' : Int) (S' : ByteArray) (M : List S26) (A3 : Option Addr) (c3 : Nat) (B3 : Option Addr) (d3 : Nat) (w : World) (r : Bool) (hA : Kd.C k26 w A3 L.length L) (hB : Kd.C k26 w B3 M.length M)
    (hz : sameC (k + 1) ⟨K, N, S, L⟩ ⟨K', N', S', M⟩ = some r) :
    Calls Try.prog 31 #[.agg #[.int .i64 K, .int .u64 N, .string S, .slice A3 L.length c3], .agg #[.int .i64 K', .int .u64 N', .string S', .slice B3 M.length d3]] w fun e w' => e = .returned (.bool r) ∧ Below w.heap.size w w' := by
  simp only [sameC] at hz
  have HBB : Aside0 (∀ o o' : Obj, Below w.heap.size w ((w.alloc o).alloc o')) := ⟨fun o o' => below_alloc (below_alloc (Below.refl _ _) o) o'⟩
  by_cases h : K = K'
  · subst h
    rw [if_pos rfl] at hz
    by_cases h0 : K = 0
    · subst h0
      rw [if_pos rfl] at hz
      obtain rfl := Option.some.inj hz
      clear ih hA hB hz
      go_enter Try.func31, Try.ntmps31
      go_wp2
      go_ret
      exact ⟨rfl, HBB.out _ _⟩
    · rw [if_neg h0] at hz
      have b0 : (K == 0) = false := beq_eq_false_iff_ne.mpr h0
      by_cases h1 : K = 1
      · subst h1
        rw [if_pos rfl] at hz
        obtain rfl := Option.some.inj hz
        clear ih hA hB hz h0
        go_enter Try.func31, Try.ntmps31
        go_wp2
        go_ret
        exact ⟨rfl, HBB.out _ _⟩
      · rw [if_neg h1] at hz
        have b1 : (K == 1) = false := beq_eq_false_iff_ne.mpr h1
        by_cases h2 : K = 2
        · subst h2
          rw [if_pos rfl] at hz
          have HE := Aside0.mk (fun (W : World) (hb : Below w.heap.size w W) => equal_step k ih A3 c3 B3 d3 L M W r (Kd.C_below hA hb) (Kd.C_below hB hb) hz)
          clear ih hA hB hz h0 h1
          go_enter Try.func31, Try.ntmps31
          go_wp2_with fail
          refine (HE.out _ (HBB.out _ _)).mono ?_
          rintro e w4 ⟨rfl, hb⟩
          have HB4 := Aside0.mk ((below_alloc (below_alloc (Below.refl w.heap.size w) _) _).trans (hb.mono (by simp; omega)))
          clear hb
          go_wp2
          go_ret
          exact ⟨rfl, HB4.out⟩
        · rw [if_neg h2] at hz
          have b2 : (K == 2) = false := beq_eq_false_iff_ne.mpr h2
          obtain rfl := Option.some.inj hz
          clear ih hA hB hz h0 h1 h2
          go_enter Try.func31, Try.ntmps31
          go_wp2
          go_ret
          exact ⟨rfl, HBB.out _ _⟩
  · rw [if_neg h] at hz
    have b0 : (K == K') = false := beq_eq_false_iff_ne.mpr h
    have b1 : (K != K') = true := bne_iff_ne.mpr h
    obtain rfl := Option.some.inj hz
    clear ih hA hB hz h
    go_enter Try.func31, Try.ntmps31
    go_wp2
    go_ret
    exact ⟨rfl, HBB.out _ _⟩
theorem same_calls : ∀ (k : Nat) (a b : S26) (A3 : Option Addr) (c3 : Nat) (B3 : Option Addr) (d3 : Nat) (w : World) (r : Bool), Kd.C k26 w A3 a.f3.length a.f3 → Kd.C k26 w B3 b.f3.length b.f3 → sameC k a b = some r →
      Calls Try.prog 31 #[.agg #[.int .i64 a.f0, .int .u64 a.f1, .string a.f2, .slice A3 a.f3.length c3], .agg #[.int .i64 b.f0, .int .u64 b.f1, .string b.f2, .slice B3 b.f3.length d3]] w fun e w' => e = .returned (.bool r) ∧ Below w.heap.size w w'
  | 0, a, b, A3, c3, B3, d3, w, r, hA, hB, hz => by simp [sameC] at hz
  | k + 1, ⟨K, N, S, L⟩, ⟨K', N', S', M⟩, A3, c3, B3, d3, w, r, hA, hB, hz => same_step k (same_calls k) K N S L K' N' S' M A3 c3 B3 d3 w r hA hB hz
def code_Same.f (k : Nat) (a0 a1 : Int) (a2 : ByteArray) (l3 : List S26) (b0 b1 : Int) (b2 : ByteArray) (m3 : List S26) : Option Bool := sameC k ⟨a0, a1, a2, l3⟩ ⟨b0, b1, b2, m3⟩
set_option maxHeartbeats 1600000 in
set_option maxRecDepth 100000 in
theorem code_Same.calls (k : Nat) (a0_0 : Int) (a0_1 : Int) (a0_2 : ByteArray) (A0_3 : Option Addr) (c0_3 : Nat) (l0_3 : List S26) (a1_0 : Int) (a1_1 : Int) (a1_2 : ByteArray) (A1_3 : Option Addr) (c1_3 : Nat) (l1_3 : List S26) (r : Bool) (w : World) (hr0_3 : Kd.C k26 w A0_3 l0_3.length l0_3) (hc0_3 : l0_3.length ≤ c0_3) (hr1_3 : Kd.C k26 w A1_3 l1_3.length l1_3) (hc1_3 : l1_3.length ≤ c1_3) (h : code_Same.f k a0_0 a0_1 a0_2 l0_3 a1_0 a1_1 a1_2 l1_3 = some r) :
    Calls Try.prog 22 #[.agg #[.int .i64 a0_0, .int .u64 a0_1, .string a0_2, .slice A0_3 l0_3.length c0_3], .agg #[.int .i64 a1_0, .int .u64 a1_1, .string a1_2, .slice A1_3 l1_3.length c1_3]] w fun e w' => e = .returned (.bool r) ∧ Below w.heap.size w w' := by
  have HE := Aside0.mk (fun (W : World) (hb : Below w.heap.size w W) => same_calls k ⟨a0_0, a0_1, a0_2, l0_3⟩ ⟨a1_0, a1_1, a1_2, l1_3⟩ A0_3 c0_3 A1_3 c1_3 W r (Kd.C_below hr0_3 hb) (Kd.C_below hr1_3 hb) h)
  clear hr0_3 hr1_3 h
  go_enter Try.func22, Try.ntmps22
  go_wp2_with fail
  refine (HE.out _ (below_alloc (below_alloc (Below.refl w.heap.size w) _) _)).mono ?_
  rintro e w4 ⟨rfl, hb⟩
  have HB4 := Aside0.mk ((below_alloc (below_alloc (Below.refl w.heap.size w) _) _).trans (hb.mono (by simp; omega)))
  clear hb
  go_wp2
  go_ret
  exact ⟨rfl, HB4.out⟩
theorem allC_mono {α : Type} {f g : α → α → Option Bool} (hf : ∀ x y r, f x y = some r → g x y = some r) : ∀ (l m : List α) (r : Bool), allC f l m = some r → allC g l m = some r
  | x :: l, y :: m, r, h => by
    simp only [allC] at h ⊢
    obtain ⟨s, h1, h2⟩ := Option.bind_eq_some_iff.mp h
    rw [hf _ _ _ h1]
    simp only [Option.bind_some]
    split
    · rename_i he
      rw [if_pos he] at h2
      exact allC_mono hf l m r h2
    · rename_i he
      rw [if_neg he] at h2
      exact h2
  | [], _, r, h => by simpa [allC] using h
  | _ :: _, [], r, h => by simpa [allC] using h
theorem sameC_mono : ∀ (k : Nat) (a b : S26) (r : Bool), sameC k a b = some r → sameC (k + 1) a b = some r
  | 0, a, b, r, h => by simp [sameC] at h
  | k + 1, a, b, r, h => by
    rw [sameC] at h ⊢
    have hf : ∀ (l m : List S26) (r : Bool), allC (sameC k) l m = some r → allC (sameC (k + 1)) l m = some r := allC_mono (fun x y r hx => sameC_mono k x y r hx)
    by_cases h0 : a.f0 = b.f0
    · rw [if_pos h0] at h ⊢
      by_cases h1 : a.f0 = 0
      · rw [if_pos h1] at h ⊢; exact h
      · rw [if_neg h1] at h ⊢
        by_cases h2 : a.f0 = 1
        · rw [if_pos h2] at h ⊢; exact h
        · rw [if_neg h2] at h ⊢
          by_cases h3 : a.f0 = 2
          · rw [if_pos h3] at h ⊢
            by_cases h4 : a.f3.length = b.f3.length
            · rw [if_pos h4] at h ⊢; exact hf _ _ _ h
            · rw [if_neg h4] at h ⊢; exact h
          · rw [if_neg h3] at h ⊢; exact h
    · rw [if_neg h0] at h ⊢; exact h
theorem code_Same.mono : ∀ a0 a1 a2 a3 a4 a5 a6 a7 k, LeO (code_Same.f k a0 a1 a2 a3 a4 a5 a6 a7) (code_Same.f (k + 1) a0 a1 a2 a3 a4 a5 a6 a7) := fun _ _ _ _ _ _ _ _ k r h => sameC_mono k _ _ r h
end Go.Proofs.Ytjcaieecafggiaa.Pr
