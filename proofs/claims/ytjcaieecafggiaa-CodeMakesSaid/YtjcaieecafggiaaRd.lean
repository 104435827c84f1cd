/- The reader of package code: its state; takes. -/
import Derived.Test.YtjcaieecafggiaaEncode
namespace Go.Proofs.Ytjcaieecafggiaa.Pr
open Go.RowKit Go.Proofs.YtjcaieecafggiaaW.PrintWords Go.Proofs.YtjcaieecafggiaaW.PrintLast Go.Proofs.YtjcaieecafggiaaW.PrintMore
set_option linter.unusedVariables false
set_option linter.unusedSimpArgs false
/-- The reader in block p: what is left are the bytes bs, which lie in w0. -/
structure Rd (w0 : World) (p : Nat) (w : World) (bs : List Int) : Prop where
  blk : ∃ A c, w.heap[p]? = some (.cells #[.slice A bs.length c] 48 (0, 0)) ∧ bs.length ≤ c ∧ Kd.C (Kd.int .u8) w0 A bs.length bs
  base : w0.heap.size ≤ p
  frm : Below w0.heap.size w0 w
theorem Rd.lt {w0 w : World} {p : Nat} {bs : List Int} (h : Rd w0 p w bs) : p < w.heap.size := by
  obtain ⟨A, c, hb, _⟩ := h.blk
  exact (Array.getElem?_eq_some_iff.1 hb).1
/-- What became of the world: it is as it was, but for the reader, and what is new. -/
structure RdEnd (w0 : World) (p : Nat) (w w' : World) (bs : List Int) : Prop where
  rd : Rd w0 p w' bs
  below : Below w0.heap.size w w'
  kept : Kept w w' (fun k => k = p)
theorem RdEnd.refl {w0 w : World} {p : Nat} {bs : List Int} (h : Rd w0 p w bs) : RdEnd w0 p w w bs := ⟨h, Below.refl _ _, Kept.refl _ _⟩
theorem RdEnd.trans {w0 w w1 w2 : World} {p : Nat} {bs bs' : List Int} (h : RdEnd w0 p w w1 bs) (k : RdEnd w0 p w1 w2 bs') : RdEnd w0 p w w2 bs' := ⟨k.rd, h.below.trans k.below, h.kept.then_ k.kept (fun _ h => .inl h)⟩
theorem RdEnd.from {w0 w w1 w2 : World} {p : Nat} {bs : List Int} (hB : w0.heap.size ≤ w.heap.size) (hb : Below w.heap.size w w1) (k : RdEnd w0 p w1 w2 bs) : RdEnd w0 p w w2 bs := ⟨k.rd, (hb.mono hB).trans k.below, (Kept.of_below hb _).then_ k.kept (fun _ h => .inl h)⟩
theorem Rd.below {w0 w w1 : World} {p : Nat} {bs : List Int} (h : Rd w0 p w bs) (hb : Below w.heap.size w w1) : Rd w0 p w1 bs := by
  obtain ⟨A, c, h1, h2⟩ := h.blk
  exact ⟨⟨A, c, (hb.block p h.lt).trans h1, h2⟩, h.base, h.frm.trans (hb.mono (Nat.le_trans h.base (Nat.le_of_lt h.lt)))⟩
theorem Rd.top {w0 w : World} {p : Nat} {bs : List Int} (h : Rd w0 p w bs) : w0.heap.size ≤ w.heap.size := Nat.le_trans h.base (Nat.le_of_lt h.lt)
theorem Rd.max {w0 w : World} {p : Nat} {bs : List Int} (h : Rd w0 p w bs) : bs.length ≤ 9223372036854775807 := by
  obtain ⟨A, c, _, _, h2⟩ := h.blk
  exact h2.2.1
theorem Rd.stored {w0 w : World} {p : Nat} {bs bs' : List Int} {A : Option Addr} {c : Nat} (h : Rd w0 p w bs) (hc : bs'.length ≤ c) (hC : Kd.C (Kd.int .u8) w0 A bs'.length bs') : RdEnd w0 p w (w.setCell ⟨p, 0, none⟩ (.slice A bs'.length c)) bs' := by
  obtain ⟨A0, c0, h1, h2, h3⟩ := h.blk
  refine ⟨⟨⟨A, c, ?_, hc, hC⟩, h.base, h.frm.setCell h.base _⟩, (Below.refl _ _).setCell h.base _, (Kept.refl w (fun k => k = p)).setCell (p := ⟨p, 0, none⟩) (.inl rfl) _⟩
  unfold World.setCell
  simp only [Array.getElem?_modify, if_pos, h1]
  rfl
/-- What takes comes to. -/
def TookEnd (w0 : World) (p : Nat) (w : World) (bs : List Int) (n : Int) (e : Ending) (w' : World) : Prop :=
      (n ≤ bs.length ∧ ∃ A c, e = .returned (.slice A (bs.take n.toNat).length c) ∧ (bs.take n.toNat).length ≤ c ∧ Kd.C (Kd.int .u8) w0 A (bs.take n.toNat).length (bs.take n.toNat) ∧ RdEnd w0 p w w' (bs.drop n.toNat)) ∨ ((bs.length : Int) < n ∧ e = wrongE 3 ∧ w = w')
set_option maxHeartbeats 1600000 in
set_option maxRecDepth 100000 in
theorem takes_calls {w0 w : World} {p : Nat} {bs : List Int} (h : Rd w0 p w bs) (n : Int) (hn : 0 ≤ n) :
    Calls Try.prog 32 #[.pointer (some ⟨p, 0, none⟩), .int .i64 n] w (TookEnd w0 p w bs n) := by
  obtain ⟨A, c, hb, hc, hC⟩ := h.blk
  have h0 : w.cell? ⟨p, 0, none⟩ = some (.slice A bs.length c) := (blk_cell hb 0).trans rfl
  have hz : w.frozen? ⟨p, 0, none⟩ = false := blk_frozen hb 0
  have hmx := h.max
  by_cases hlt : (bs.length : Int) < n
  · have b0 : decide ((bs.length : Int) < n) = true := decide_eq_true hlt
    clear h hb hC
    go_enter Try.func32, Try.ntmps32
    go_wp2_with (go_at_call 34; refine (give_calls _ _).mono ?_; rintro e w' ⟨rfl, rfl⟩)
    unfold bodyPost
    exact ⟨rfl, Or.inr ⟨hlt, rfl, rfl⟩⟩
  · have b0 : decide ((bs.length : Int) < n) = false := decide_eq_false hlt
    obtain ⟨i0, hi, hz0, hz1, hz2⟩ := info_parts info5
    have c1 := cut_to (P := Try.prog) 22 5 .i64 Try.underlying22 hi A bs.length c n hn (by omega) hc
    have c2 := cut_from (P := Try.prog) 22 5 .i64 Try.underlying22 hi 1 hz1 A bs.length c n hn (by omega)
    have hC1 := Kd.C_take hC (show n.toNat ≤ bs.length by omega)
    have hC2 := Kd.C_drop hC (show n.toNat ≤ bs.length by omega) hc
    have hl1 : (bs.take n.toNat).length = n.toNat := by rw [List.length_take]; omega
    have hl2 : (bs.drop n.toNat).length = bs.length - n.toNat := List.length_drop
    obtain ⟨A2, hA2⟩ : ∃ A2, A2 = (if c = n.toNat then A else Option.map (fun x => x.add (n.toNat * 1)) A) := ⟨_, rfl⟩
    rw [← hA2] at c2
    have HC1 := Aside0.mk hC1
    have HC2 : Aside0 (Kd.C (Kd.int .u8) w0 A2 (bs.drop n.toNat).length (bs.drop n.toNat)) := ⟨by rw [hA2]; exact hC2⟩
    have HL1 := Aside0.mk hl1
    have HL2 := Aside0.mk hl2
    have H := Aside0.mk h
    clear h hb hC hi hz0 hz1 hz2 hA2 hl1 hl2 hC1 hC2
    go_enter Try.func32, Try.ntmps32
    go_wp2
    go_ret
    refine Or.inl ⟨by omega, A, c, by rw [HL1.out]; rfl, by rw [HL1.out]; omega, HC1.out, ?_⟩
    rw [← HL2.out]
    exact H.out.stored (by rw [HL2.out]; omega) HC2.out
/-- The number that bytes tell, the greatest first. -/
def numR : List Int → Int → Int
  | [], n => n
  | x :: xs, n => numR xs (Go.bits .or .u64 (IntKind.u64.wrap (n * 256)) (IntKind.u64.wrap x))
theorem drop_rdI (L : List Int) (I : Int) (h0 : 0 ≤ I) (h1 : I < (L.length : Int)) : L.drop I.toNat = rd L I :: L.drop (I + 1).toNat := by
  have hi : I.toNat < L.length := by omega
  rw [List.drop_eq_getElem_cons hi, show (I + 1).toNat = I.toNat + 1 by omega]
  congr 1
  unfold rd
  rw [List.getD_eq_getElem?_getD, List.getElem?_eq_getElem hi]
  rfl
/-- What number comes to. -/
def NumEnd (w0 : World) (p : Nat) (w : World) (bs : List Int) (m : Nat) (e : Ending) (w' : World) : Prop :=
  (m ≤ bs.length ∧ e = .returned (.int .u64 (numR (bs.take m) 0)) ∧ RdEnd w0 p w w' (bs.drop m)) ∨ (bs.length < m ∧ e = wrongE 3 ∧ w = w')
set_option maxHeartbeats 1600000 in
set_option maxRecDepth 100000 in
theorem number_calls {w0 w : World} {p : Nat} {bs : List Int} (h : Rd w0 p w bs) (m : Nat) (hm : m ≤ 8) :
    Calls Try.prog 33 #[.pointer (some ⟨p, 0, none⟩), .int .i64 m] w (NumEnd w0 p w bs m) := by
  have H := Aside0.mk h
  clear h
  go_enter Try.func33, Try.ntmps33
  go_wp2_with fail
  refine (takes_calls H.out m (by omega)).mono ?_
  rintro e w2 (⟨hle, A, c, rfl, hc, hC, hE⟩ | ⟨hlt, rfl, rfl⟩)
  · have hl1 : (bs.take (m : Int).toNat).length = m := by rw [List.length_take]; omega
    obtain ⟨zs, hzs⟩ : ∃ zs, zs = bs.take (m : Int).toNat := ⟨_, rfl⟩
    rw [← hzs] at hc hC hl1 ⊢
    have hzl : zs.length ≤ 8 := by omega
    have HE := Aside0.mk hE
    have HC := Aside0.mk hC
    have HZ := Aside0.mk hzs
    have HLE := Aside0.mk hle
    clear hE hC hzs hle hl1
    go_wp2_with fail
    go_loopg [5, 12] zs.length (fun kq s5 s12 wr => ∃ n I : Int, s5 = .int .u64 n ∧ s12 = .int .i64 I ∧ Aside0 (0 ≤ I ∧ I ≤ zs.length ∧ (zs.length : Int) - I = kq) ∧ Aside0 (numR (zs.drop I.toNat) n = numR zs 0) ∧ wr = w2)
    case atStart => exact ⟨0, 0, rfl, rfl, ⟨by omega, by omega, by omega⟩, ⟨rfl⟩, rfl⟩
    case round =>
      obtain ⟨n, I, rfl, rfl, HI, HN, rfl⟩ := hrel
      by_cases hlt : I < (zs.length : Int)
      · have p0 : (0 ≤ I) = True := eq_true HI.out.1
        have q0 : (I < (zs.length : Int)) = True := eq_true hlt
        have d0 : decide (I < (zs.length : Int)) = true := decide_eq_true hlt
        obtain ⟨ad, eA, hx0⟩ := Kd.at_int HC.out I HI.out.1 hlt
        replace hx0 := (HE.out.rd.frm.cell (World.block_lt_of_cell? w0 _ hx0)).trans hx0
        clear hlt
        cases eA
        go_wp2
        go_roundg (zs.length - (I + 1).toNat)
        case measure => have := HI.out; have := of_eq_true q0; omega
        case rel =>
          have hq := of_eq_true q0
          have hi0 := HI.out.1
          have g0 : 0 ≤ I + 1 := by omega
          have g1 : I + 1 ≤ (zs.length : Int) := by omega
          have g2 : (zs.length : Int) - (I + 1) = ((zs.length - (I + 1).toNat : Nat) : Int) := by omega
          have hw : wrap64 (I + 1) = I + 1 := by unfold wrap64; omega
          have hn := HN.out
          rw [drop_rdI zs I hi0 hq, numR] at hn
          exact ⟨_, I + 1, rfl, by rw [hw], ⟨g0, g1, g2⟩, ⟨hn⟩, rfl⟩
      · have d0 : decide (I < (zs.length : Int)) = false := decide_eq_false hlt
        have hn := HN.out
        rw [List.drop_eq_nil_of_le (by omega), numR] at hn
        have HN2 := Aside0.mk hn
        clear hlt hn HN
        go_wp2
        go_ret
        refine Or.inl ⟨by have := HLE.out; omega, ?_, ?_⟩
        · have hz := HZ.out
          rw [Int.toNat_natCast] at hz
          rw [← hz, ← HN2.out]
          rfl
        · have he := HE.out
          rwa [Int.toNat_natCast] at he
  · have hlt2 : bs.length < m := by omega
    clear H
    unfold wrongE
    go_wp2
    unfold bodyPost
    exact ⟨rfl, Or.inr ⟨hlt2, rfl, rfl⟩⟩
end Go.Proofs.Ytjcaieecafggiaa.Pr
