/- prog.prints, prog.Print: a function as a text: contracts of their calls. -/
import Derived.Test.YtlhnkfheojlghaaDoorBld
import Derived.Test.YtlhnkfheojlghaaDoorCheckC
namespace Go.Proofs.YtlhnkfheojlghaaDoor.Pr
open Go.RowKit Go.Proofs.YtlhnkfheojlghaaDoorW.PrintWords Go.Proofs.YtlhnkfheojlghaaDoorW.PrintLast Go.Proofs.YtlhnkfheojlghaaDoorW.PrintMore
set_option linter.unusedVariables false
set_option linter.unusedSimpArgs false
def nameM (op : Int) : List UInt8 := if isM op = true then (ordersL.getD op.toNat z63).f0.data.toList else [110, 111, 110, 101]
def usesN (op : Int) : ByteArray := if isM op = true then usesM op else ⟨#[]⟩
/-- The text of the first operands. -/
def opersT (i : S36) : Nat → List UInt8
  | 0 => []
  | j + 1 => opersT i j ++ (32 :: Lib.itoa (operM i j))
def headT (k : Nat) (i : S36) : List UInt8 := Lib.itoa (k : Int) ++ (32 :: nameM i.f0)
def lineT (k : Nat) (i : S36) : List UInt8 := headT k i ++ opersT i (usesN i.f0).size ++ [10]
def linesT (c : List S36) : Nat → List UInt8
  | 0 => []
  | k + 1 => linesT c k ++ lineT k (c.getD k z36)
def funT (k : Nat) : List UInt8 := [102, 117, 110, 99, 116, 105, 111, 110, 32] ++ Lib.itoa (k : Int) ++ [10]
mutual
/-- A function as a text. -/
def textP : S27 → List UInt8
  | ⟨_, _, _, f3, _, f5⟩ => linesT f3 f3.length ++ textL f5 0
def textL : List S27 → Nat → List UInt8
  | [], _ => []
  | q :: l, k => funT k ++ textP q ++ textL l (k + 1)
end
theorem textP_eq (p : S27) : textP p = linesT p.f3 p.f3.length ++ textL p.f5 0 := by cases p; rw [textP]
theorem textL_drop (l : List S27) (k : Nat) (hk : k < l.length) (m : Nat) : textL (l.drop k) m = funT m ++ textP l[k] ++ textL (l.drop (k + 1)) (m + 1) := by
  rw [List.drop_eq_getElem_cons hk, textL]
def i64B (x : Int) : Bool := decide (-9223372036854775808 ≤ x) && decide (x ≤ 9223372036854775807)
mutual
/-- All operands are numbers of 64 bits. -/
def intsM : S27 → Bool
  | ⟨_, _, _, f3, _, f5⟩ => f3.all (fun i => i64B i.f1 && (i64B i.f2 && i64B i.f3)) && intsL f5
def intsL : List S27 → Bool
  | [] => true
  | p :: l => intsM p && intsL l
end
theorem intsM_eq (p : S27) : intsM p = (p.f3.all (fun i => i64B i.f1 && (i64B i.f2 && i64B i.f3)) && intsL p.f5) := by cases p; rw [intsM]
theorem intsL_mem : ∀ {l : List S27} {p : S27}, intsL l = true → p ∈ l → intsM p = true
  | [], _, _, h => by cases h
  | q :: l, p, h, hp => by
    rw [intsL, Bool.and_eq_true] at h
    rcases List.mem_cons.1 hp with rfl | hp
    · exact h.1
    · exact intsL_mem h.2 hp
theorem ints_code {p : S27} (h : intsM p = true) {i : S36} (hi : i ∈ p.f3) (k : Nat) : -9223372036854775808 ≤ operM i k ∧ operM i k ≤ 9223372036854775807 := by
  rw [intsM_eq, Bool.and_eq_true] at h
  have := List.all_eq_true.1 h.1 i hi
  simp only [i64B, Bool.and_eq_true, decide_eq_true_eq] at this
  unfold operM
  split
  · exact this.1
  · split
    · exact this.2.1
    · exact this.2.2
theorem itoa_f (x : Int) (h : -9223372036854775808 ≤ x ∧ x ≤ 9223372036854775807) : strconv_Itoa.f x = some (itoaOf x) := by unfold strconv_Itoa.f; rw [if_pos h]
theorem itoa_list (x : Int) : (itoaOf x).data.toList = Lib.itoa x := by simp [itoaOf]
theorem of_f (op : Int) : ∃ ct is, prog_of.f op = some (⟨(nameM op).toArray⟩, usesN op, ct, is) := by
  unfold prog_of.f nameM usesN isM
  by_cases h0 : 0 ≤ op
  · rw [if_pos h0, decide_eq_true h0]
    by_cases h1 : op < 38
    · rw [if_pos h1, decide_eq_true h1]
      exact ⟨_, _, rfl⟩
    · rw [if_neg h1, decide_eq_false h1]
      exact ⟨_, _, rfl⟩
  · rw [if_neg h0, decide_eq_false h0]
    exact ⟨_, _, rfl⟩
theorem uses_small2 (op : Int) : (usesN op).size ≤ 3 := by
  unfold usesN
  split
  · exact uses_small _
  · decide
theorem cat_list (a b : ByteArray) : (a ++ b).data.toList = a.data.toList ++ b.data.toList := by simp
theorem lines_app_le (c : List S36) (k : Nat) : ∀ n, k ≤ n → (linesT c k).length ≤ (linesT c n).length := by
  intro n
  induction n with
  | zero => intro h; have e : k = 0 := Nat.le_zero.1 h; rw [e]; exact Nat.le_refl _
  | succ n ih =>
    intro h
    rcases Nat.lt_or_ge k (n + 1) with h1 | h1
    · have := ih (by omega)
      rw [linesT, List.length_append]
      omega
    · obtain rfl : k = n + 1 := by omega
      exact Nat.le_refl _
theorem opers_app_le (i : S36) (k : Nat) : ∀ n, k ≤ n → (opersT i k).length ≤ (opersT i n).length := by
  intro n
  induction n with
  | zero => intro h; have e : k = 0 := Nat.le_zero.1 h; rw [e]; exact Nat.le_refl _
  | succ n ih =>
    intro h
    rcases Nat.lt_or_ge k (n + 1) with h1 | h1
    · have := ih (by omega)
      rw [opersT, List.length_append]
      omega
    · obtain rfl : k = n + 1 := by omega
      exact Nat.le_refl _
theorem bis_lt {w : World} {B b : Nat} {l : List UInt8} (h : BIs w B b l) : b < w.heap.size := by
  rcases h with h | h
  · exact h.lt
  · exact h.lt
theorem bis_alloc {w : World} {B b : Nat} {l : List UInt8} (h : BIs w B b l) (o : Obj) : BIs (w.alloc o) B b l := Lib.IsBuilderF.alloc h o
theorem bis_below {w w' : World} {B b : Nat} {l : List UInt8} (h : BIs w B b l) (hb : Below w.heap.size w w') : BIs w' B b l := by
  have hlt := bis_lt h
  rcases h with h | h
  · obtain ⟨hB, v, hbk, hown, hne⟩ := h
    exact .inl ⟨hB, v, (hb.block b hlt).trans hbk, hown.kept (grown_of_below hb none) (by cases v.ownBlock <;> simp), hne⟩
  · obtain ⟨hB, v, hbk, hown, hne⟩ := h
    exact .inr ⟨hB, v, (hb.block b hlt).trans hbk, hown.kept (grown_of_below hb none) (by cases v.ownBlock <;> simp), hne⟩
theorem oth_below {b : Nat} {a w w' : World} (h : Oth b a w) (hb : Below w.heap.size w w') : Oth b a w' := by
  intro k o hk h1 h2
  have h3 := h k o hk h1 h2
  exact (hb.block k (Array.getElem?_eq_some_iff.1 h3).1).trans h3
theorem oth_trans {b : Nat} {a c d : World} (h : Oth b a c) (k : Oth b c d) : Oth b a d := Lib.OthersKept.trans h k
theorem below_of_drew {w w' : World} (h : Below w.drew.heap.size w.drew w') : Below w.heap.size w w' := ⟨h.os, h.tape, h.output, h.size, h.block⟩
/-- What a call of prints keeps in hand: the builder, the function's box, what was there. -/
structure Pin (w0 w wr : World) (b : Nat) (l : List UInt8) (cs : Array Value) : Prop where
  bi : BIs wr w0.heap.size b l
  pb : wr.heap[w.heap.size]? = some (.cells cs 27 (0, 0))
  bw : Below w0.heap.size w wr
  oth : Oth b w wr
theorem Pin.below {w0 w wr w' : World} {b : Nat} {l : List UInt8} {cs : Array Value} (h : Pin w0 w wr b l cs) (hb : Below wr.heap.size wr w') (h0 : w0.heap.size ≤ wr.heap.size) : Pin w0 w w' b l cs :=
  ⟨bis_below h.bi hb, (hb.block _ (lt_of_blk h.pb)).trans h.pb, h.bw.trans (hb.mono h0), oth_below h.oth hb⟩
theorem Pin.write {w0 w wr w' : World} {b : Nat} {l l' : List UInt8} {cs : Array Value} (h : Pin w0 w wr b l cs) (hb : b < w.heap.size) (h1 : BIs w' w0.heap.size b l') (h2 : Below w0.heap.size wr w') (h3 : Oth b wr w') : Pin w0 w w' b l' cs :=
  ⟨h1, h3.block h.pb (by omega) (by decide), h.bw.trans h2, oth_trans h.oth h3⟩
theorem sp_list (x : Int) : ((⟨#[32]⟩ : ByteArray) ++ itoaOf x).data.toList = 32 :: Lib.itoa x := by simp [itoaOf]
theorem fun_list (m : Nat) : ((⟨#[102, 117, 110, 99, 116, 105, 111, 110, 32]⟩ : ByteArray) ++ itoaOf (m : Int) ++ ⟨#[10]⟩).data.toList = funT m := by simp [itoaOf, funT]
theorem ints_protos {p : S27} (h : intsM p = true) : intsL p.f5 = true := by rw [intsM_eq, Bool.and_eq_true] at h; exact h.2
theorem head_list (k : Nat) (i : S36) (u : ByteArray) (hu : u = ⟨(nameM i.f0).toArray⟩) : (itoaOf (k : Int) ++ ⟨#[32]⟩ ++ u).data.toList = headT k i := by
  rw [hu]; simp [headT, itoaOf]
set_option maxRecDepth 100000 in
set_option maxHeartbeats 8000000 in
theorem prints_calls (n : Nat) : ∀ (p : S27), SizeOf.sizeOf p ≤ n → ∀ (w0 w : World) (hb : Below w0.heap.size w0 w) (hG : OrdersLaid w0) (A2 : Option Addr) (c2 : Nat) (A3 : Option Addr) (c3 : Nat) (A4 : Option Addr) (c4 : Nat) (A5 : Option Addr) (c5 : Nat)
    (C3 : Kd.C k36 w0 A3 p.f3.length p.f3) (C5 : Kd.C k27 w0 A5 p.f5.length p.f5) (hi : intsM p = true) (b : Nat) (l : List UInt8) (hbi : BIs w w0.heap.size b l) (hlen : (l ++ textP p).length ≤ 140737488355328),
    Calls Tryd.prog 31 #[.pointer (some ⟨b, 0, none⟩), .agg #[.int .i64 p.f0, .int .i64 p.f1, .slice A2 p.f2.length c2, .slice A3 p.f3.length c3, .slice A4 p.f4.length c4, .slice A5 p.f5.length c5]] w fun e w' => e = .returned (.tuple #[]) ∧ BIs w' w0.heap.size b (l ++ textP p) ∧ Below w0.heap.size w w' ∧ Oth b w w' := by
  induction n with
  | zero => intro p hp; exfalso; obtain ⟨f0, f1, f2, f3, f4, f5⟩ := p; simp at hp
  | succ n ih =>
  intro p hp w0 w hb hG A2 c2 A3 c3 A4 c4 A5 c5 C3 C5 hi b l hbi hlen
  have hbw : b < w.heap.size := bis_lt hbi
  have IH := Aside0.mk ih
  have HP := Aside0.mk hp
  have HB := Aside0.mk hb
  have HG := Aside0.mk hG
  have HC3 := Aside0.mk C3
  have HC5 := Aside0.mk C5
  have HI := Aside0.mk hi
  have n3 : (p.f3.length : Int) ≤ 9223372036854775807 := by have := C3.2.1; omega
  have n5 : (p.f5.length : Int) ≤ 9223372036854775807 := by have := C5.2.1; omega
  have HT := Aside0.mk (textP_eq p)
  rw [HT.out] at hlen
  have hlen2 : l.length + (linesT p.f3 p.f3.length).length + (textL p.f5 0).length ≤ 140737488355328 := by simpa [Nat.add_assoc] using hlen
  have HLEN := Aside0.mk hlen2
  obtain ⟨W1, hW1⟩ : ∃ W1, W1 = w.alloc (.cells #[.int .i64 p.f0, .int .i64 p.f1, .slice A2 p.f2.length c2, .slice A3 p.f3.length c3, .slice A4 p.f4.length c4, .slice A5 p.f5.length c5] 27) := ⟨_, rfl⟩
  have B1 : Aside0 (Below w.heap.size w W1) := ⟨by rw [hW1]; exact (Below.refl w.heap.size w).alloc (Nat.le_refl _) _⟩
  have PB : Aside0 (W1.heap[w.heap.size]? = some (.cells #[.int .i64 p.f0, .int .i64 p.f1, .slice A2 p.f2.length c2, .slice A3 p.f3.length c3, .slice A4 p.f4.length c4, .slice A5 p.f5.length c5] 27 (0, 0))) := ⟨by rw [hW1]; exact heap_alloc_new w _⟩
  have BI1 : Aside0 (BIs W1 w0.heap.size b l) := ⟨by rw [hW1]; exact bis_alloc hbi _⟩
  have B01 : Aside0 (Below w0.heap.size w0 W1) := ⟨hb.trans (B1.out.mono hb.size)⟩
  have B01x : Aside0 (Below w0.heap.size w W1) := ⟨B1.out.mono hb.size⟩
  have O1 : Aside0 (Oth b w W1) := ⟨by rw [hW1]; exact (Lib.OthersKept.refl _ _ w).alloc _⟩
  have p3 : W1.cell? ⟨w.heap.size, 3, none⟩ = some (.slice A3 p.f3.length c3) := row_at PB.out 3 _ rfl
  have p5 : W1.cell? ⟨w.heap.size, 5, none⟩ = some (.slice A5 p.f5.length c5) := row_at PB.out 5 _ rfl
  clear hb hG C3 C5 hi hbi hlen ih hp hlen2
  go_enter Tryd.func31, Tryd.ntmps31
  go_wp2_with fail
  rw [← hW1]
  clear hW1
  obtain ⟨cs, hcs⟩ : ∃ cs : Array Value, cs = #[.int .i64 p.f0, .int .i64 p.f1, .slice A2 p.f2.length c2, .slice A3 p.f3.length c3, .slice A4 p.f4.length c4, .slice A5 p.f5.length c5] := ⟨_, rfl⟩
  have HCS := Aside0.mk hcs
  rw [← hcs] at PB
  have P1 : Aside0 (Pin w0 w W1 b l cs) := ⟨BI1.out, PB.out, B01x.out, O1.out⟩
  clear hcs
  have hsz0 : w0.heap.size ≤ w.heap.size := HB.out.size
  clear PB BI1 O1 B1 B01 p3
  go_loopw [15] (fun s wr => ∃ k : Nat, s = .int .i64 k ∧ k ≤ p.f3.length ∧ Aside0 (Pin w0 w wr b (l ++ linesT p.f3 k) cs)) (fun s _ => p.f3.length - (intOf s).toNat)
  case atStart => exact ⟨0, rfl, Nat.zero_le _, ⟨by rw [linesT, List.append_nil]; exact P1.out⟩⟩
  case round =>
    obtain ⟨k, rfl, hk, hP⟩ := hrel
    have hszr : w0.heap.size ≤ wr.heap.size := Nat.le_trans hsz0 hP.out.bw.size
    have B0r : Aside0 (Below w0.heap.size w0 wr) := ⟨HB.out.trans hP.out.bw⟩
    by_cases hlt : k < p.f3.length
    · have i1 : (k : Int) < (p.f3.length : Int) := by omega
      obtain ⟨ad, rfl, x0, x1, x2, x3⟩ := at_T36 (Kd.C_below HC3.out B0r.out) (k : Int) (by omega) (by omega)
      have hx : rd_T36 p.f3 (k : Int) = p.f3[k] := by simp [rd_T36, hlt]
      have HM := Aside0.mk (show p.f3[k] ∈ p.f3 from List.getElem_mem _)
      have HL1 := Aside0.mk (show linesT p.f3 (k + 1) = linesT p.f3 k ++ lineT k p.f3[k] by rw [linesT, List.getD_eq_getElem?_getD, List.getElem?_eq_getElem hlt]; rfl)
      have HL2 := Aside0.mk (lines_app_le p.f3 (k + 1) p.f3.length hlt)
      rw [hx] at x0 x1 x2 x3
      rw [Int.toNat_natCast] at x0 x1 x2 x3
      generalize p.f3[k] = i at x0 x1 x2 x3 HM HL1
      obtain ⟨ct, is, hof⟩ := of_f i.f0
      have HOF := Aside0.mk hof
      obtain ⟨nm, hnm⟩ : ∃ nm : ByteArray, nm = ⟨(nameM i.f0).toArray⟩ := ⟨_, rfl⟩
      obtain ⟨u, hu⟩ : ∃ u, u = usesN i.f0 := ⟨_, rfl⟩
      rw [← hnm, ← hu] at HOF
      have hu3 : u.size ≤ 3 := by rw [hu]; exact uses_small2 _
      have HNM := Aside0.mk hnm
      have HU := Aside0.mk hu
      have hline : (lineT k i).length = (Lib.itoa (k : Int)).length + 1 + nm.size + (opersT i u.size).length + 1 := by
        have hns : nm.size = (nameM i.f0).length := by rw [hnm]; simp [ByteArray.size]
        unfold lineT headT
        rw [List.length_append, List.length_append, List.length_append, List.length_cons, List.length_singleton, hns, hu]
        omega
      have HSZ : Aside0 (l.length + (linesT p.f3 k).length + ((Lib.itoa (k : Int)).length + 1 + nm.size + (opersT i u.size).length + 1) ≤ 140737488355328) := ⟨by
        have h1 := HL2.out
        rw [HL1.out, List.length_append, hline] at h1
        have := HLEN.out
        omega⟩
      clear hof hnm hu hline hx
      go_wp2_with (first | (go_at_call 36; obtain ⟨W2, hW2⟩ : ∃ W2, W2 = wr.alloc (.cells #[.int .i64 i.f0, .int .i64 i.f1, .int .i64 i.f2, .int .i64 i.f3] 36) := ⟨_, rfl⟩; rw [← hW2]; have BA : Below wr.heap.size wr W2 := (by rw [hW2]; exact (Below.refl wr.heap.size wr).alloc (Nat.le_refl _) _); have IB2 := Aside0.mk (heap_alloc_new wr (.cells #[.int .i64 i.f0, .int .i64 i.f1, .int .i64 i.f2, .int .i64 i.f3] 36)); rw [← hW2] at IB2; have P2 := Aside0.mk (hP.out.below BA hszr); have G2 := Aside0.mk (globBelow HG.out (B0r.out.trans (BA.mono hszr))); clear hW2; refine (prog_of.calls _ _ _ _ _ _ G2.out HOF.out).mono ?_; rintro e w3 ⟨rfl, hb3⟩; have B3 := Aside0.mk (hb3.alloc hb3.size (.cells #[.string nm, .string u, .int .i64 ct] 63)); have P3 := Aside0.mk (P2.out.below B3.out (Nat.le_trans hszr BA.size)); have IB3 := Aside0.mk ((B3.out.block wr.heap.size (lt_of_blk IB2.out)).trans IB2.out); have OB3 := Aside0.mk (heap_alloc_new w3 (.cells #[.string nm, .string u, .int .i64 ct] 63)); have y0 := row_at IB2.out 0 (.int .i64 i.f0) rfl; have n0 := row_at OB3.out 0 (.string nm) rfl; have hw3 : w.heap.size ≤ w3.heap.size := Nat.le_trans P2.out.bw.size hb3.size; clear hb3 BA))
      obtain ⟨W3, hW3⟩ : ∃ W3, W3 = w3.alloc (.cells #[.string nm, .string u, .int .i64 ct] 63) := ⟨_, rfl⟩
      rw [← hW3] at P3 IB3 OB3 ⊢
      have hs3 : w3.heap.size < W3.heap.size := by rw [hW3]; simp
      clear hW3 y0 n0
      have B03 : Aside0 (Below w0.heap.size w0 W3) := ⟨HB.out.trans P3.out.bw⟩
      have hsz3 : w0.heap.size ≤ W3.heap.size := Nat.le_trans hsz0 P3.out.bw.size
      have hbw3 : b < W3.heap.size := Nat.lt_of_lt_of_le hbw P3.out.bw.size
      have o0 := row_at OB3.out 0 (.string nm) rfl
      have hir := Aside0.mk (show -9223372036854775808 ≤ (k : Int) ∧ (k : Int) ≤ 9223372036854775807 by omega)
      obtain ⟨tk, htk⟩ : ∃ tk, tk = itoaOf (k : Int) := ⟨_, rfl⟩
      have HTK := Aside0.mk htk
      have hts : tk.size = (Lib.itoa (k : Int)).length := by rw [htk]; simp [itoaOf, ByteArray.size]
      have hit : Aside0 (strconv_Itoa.f (k : Int) = some tk) := ⟨by rw [itoa_f _ hir.out, htk]⟩
      have z1 : tk.size + 1 ≤ 9223372036854775807 := by have := HSZ.out; omega
      have z2 : tk.size + 1 + nm.size ≤ 9223372036854775807 := by have := HSZ.out; omega
      have z1a := eq_true z1
      have z1b : decide (tk.size + 1 ≤ 9223372036854775807) = true := decide_eq_true z1
      have z1c : (9223372036854775807 < tk.size + 1) = False := eq_false (Nat.not_lt.2 z1)
      have z2' : (tk ++ (⟨#[32]⟩ : ByteArray)).size + nm.size ≤ 9223372036854775807 := by rw [ByteArray.size_append]; exact z2
      have z2a := eq_true z2'
      have z2b : decide ((tk ++ (⟨#[32]⟩ : ByteArray)).size + nm.size ≤ 9223372036854775807) = true := decide_eq_true z2'
      have z2c : (9223372036854775807 < (tk ++ (⟨#[32]⟩ : ByteArray)).size + nm.size) = False := eq_false (Nat.not_lt.2 z2')
      have z2d := eq_true z2
      have z2e : decide (tk.size + 1 + nm.size ≤ 9223372036854775807) = true := decide_eq_true z2
      have z2f : (9223372036854775807 < tk.size + 1 + nm.size) = False := eq_false (Nat.not_lt.2 z2)
      have HTS := Aside0.mk hts
      clear htk hts
      go_region_held3 (fun w' => w'.cell? ⟨w3.heap.size, 0, none⟩ = some (.string nm)) (go_keep)
        (first
          | (go_at_call 45; refine (strconv_Itoa.calls _ _ W3.drew (globBelow HG.out B03.out.drew) hit.out).mono ?_; rintro e w4 ⟨rfl, hb4⟩; have B4 := Aside0.mk (below_of_drew hb4); have q0 := pw_cell_below (below_of_drew hb4) o0; clear hb4)
          | (go_at_call 44; refine (ws_calls w4 w0.heap.size b (l ++ linesT p.f3 k) _ (bis_below P3.out.bi B4.out) (by have h1 := HSZ.out; have h2 := HTS.out; rw [ByteArray.size_append, ByteArray.size_append, show (⟨#[32]⟩ : ByteArray).size = 1 from rfl, List.length_append]; omega) (Nat.le_trans hsz3 B4.out.size)).mono ?_; rintro e w5 ⟨rfl, hbi5, hb5, ho5⟩; have BI5 := Aside0.mk hbi5; have BW5 := Aside0.mk hb5; have OT5 := Aside0.mk ho5; have r0 : w5.cell? ⟨w3.heap.size, 0, none⟩ = some (.string nm) := row_at (ho5.block ((B4.out.block w3.heap.size hs3).trans OB3.out) (by omega) (by decide)) 0 _ rfl; clear hbi5 hb5 ho5))
      all_goals
        have P5 : Aside0 (Pin w0 w w5 b (l ++ linesT p.f3 k ++ headT k i) cs) := ⟨(P3.out.below B4.out hsz3).write hbw (show BIs w5 w0.heap.size b (l ++ linesT p.f3 k ++ headT k i) by rw [← head_list k i nm HNM.out, ← HTK.out]; exact BI5.out) BW5.out OT5.out⟩
        have IB5 := Aside0.mk (OT5.out.block ((B4.out.block wr.heap.size (lt_of_blk IB3.out)).trans IB3.out) (by have := hP.out.bw.size; omega) (by decide))
        have OB5 := Aside0.mk (OT5.out.block ((B4.out.block w3.heap.size hs3).trans OB3.out) (by omega) (by decide))
        have hsz5 : w0.heap.size ≤ w5.heap.size := Nat.le_trans hsz0 P5.out.bw.size
        have s0 := row_at IB5.out 0 (.int .i64 i.f0) rfl
        have s1 := row_at IB5.out 1 (.int .i64 i.f1) rfl
        have s2 := row_at IB5.out 2 (.int .i64 i.f2) rfl
        have s3 := row_at IB5.out 3 (.int .i64 i.f3) rfl
        clear BI5 BW5 OT5 r0 q0 o0 z1 z1a z1b z1c z2 z2' z2a z2b z2c z2d z2e z2f HTS HTK hit hir B4 IB3 OB3 P3 hs3 hw3 hsz3 hbw3 B03 x0 x1 x2 x3
        go_wp2_with (first | (go_at_call 46; refine (operands_calls _ i).mono ?_; rintro e w6 ⟨rfl, hb6⟩; have h6s : w5.heap.size ≤ w6.heap.size := hb6.size; have B6 := Aside0.mk (hb6.alloc hb6.size (.cells #[.int .i64 i.f1, .int .i64 i.f2, .int .i64 i.f3] 82)); have P6 := Aside0.mk (P5.out.below B6.out hsz5); have OB6 := Aside0.mk ((B6.out.block w3.heap.size (lt_of_blk OB5.out)).trans OB5.out); have XB6 := Aside0.mk (heap_alloc_new w6 (.cells #[.int .i64 i.f1, .int .i64 i.f2, .int .i64 i.f3] 82)); have o1 := row_at OB6.out 1 (.string u) rfl; clear hb6))
        obtain ⟨W6, hW6⟩ : ∃ W6, W6 = w6.alloc (.cells #[.int .i64 i.f1, .int .i64 i.f2, .int .i64 i.f3] 82) := ⟨_, rfl⟩
        rw [← hW6] at P6 XB6 ⊢
        clear hW6 o1 s0 s1 s2 s3
        obtain ⟨wo, rfl⟩ : ∃ wo : World, wo = wr := ⟨_, rfl⟩
        go_loopw [39] (fun s wr => ∃ j : Nat, s = .int .i64 j ∧ j ≤ u.size ∧ Aside0 (Pin w0 w wr b (l ++ linesT p.f3 k ++ headT k i ++ opersT i j) cs) ∧ Aside0 (wr.heap[w6.heap.size]? = some (.cells #[.int .i64 i.f1, .int .i64 i.f2, .int .i64 i.f3] 82 (0, 0)))) (fun s _ => u.size - (intOf s).toNat)
        case atStart => exact ⟨0, rfl, Nat.zero_le _, ⟨by rw [opersT, List.append_nil]; exact P6.out⟩, XB6⟩
        case round =>
          obtain ⟨j, rfl, hj, hQ, hX⟩ := hrel
          have hszq : w0.heap.size ≤ wr.heap.size := Nat.le_trans hsz0 hQ.out.bw.size
          have B0q : Aside0 (Below w0.heap.size w0 wr) := ⟨HB.out.trans hQ.out.bw⟩
          by_cases hjt : j < u.size
          · have i2 : (j : Int) < (u.size : Int) := by omega
            have z3 : ((j : Int) < 3) = True := eq_true (by omega)
            have z0 : (0 ≤ (j : Int)) = True := eq_true (by omega)
            have hxj : wr.cell? ⟨w6.heap.size, j, none⟩ = some (.int .i64 (operM i j)) := by
              have h3 : j < 3 := by omega
              match j, h3 with
              | 0, _ => exact row_at hX.out 0 _ rfl
              | 1, _ => exact row_at hX.out 1 _ rfl
              | 2, _ => exact row_at hX.out 2 _ rfl
            have hir := Aside0.mk (ints_code HI.out HM.out j)
            have HO1 := Aside0.mk (show opersT i (j + 1) = opersT i j ++ (32 :: Lib.itoa (operM i j)) from rfl)
            have HO2 := Aside0.mk (opers_app_le i (j + 1) u.size hjt)
            generalize operM i j = x at hxj hir HO1
            obtain ⟨tx, htx⟩ : ∃ tx, tx = itoaOf x := ⟨_, rfl⟩
            have HTX := Aside0.mk htx
            have hts : tx.size = (Lib.itoa x).length := by rw [htx]; simp [itoaOf, ByteArray.size]
            have hit : Aside0 (strconv_Itoa.f x = some tx) := ⟨by rw [itoa_f _ hir.out, htx]⟩
            have hhd : (headT k i).length = (Lib.itoa (k : Int)).length + 1 + nm.size := by
              have hns : nm.size = (nameM i.f0).length := by rw [HNM.out]; simp [ByteArray.size]
              unfold headT
              rw [List.length_append, List.length_cons, hns]
              omega
            have HLE : Aside0 ((l ++ linesT p.f3 k ++ headT k i ++ opersT i j).length + (1 + tx.size) ≤ 140737488355328) := ⟨by
              have h1 := HO2.out
              have h2 := HSZ.out
              rw [HO1.out, List.length_append, List.length_cons, ← hts] at h1
              rw [List.length_append, List.length_append, List.length_append, hhd]
              omega⟩
            have z1 : 1 + tx.size ≤ 9223372036854775807 := by have := HLE.out; omega
            have z1a := eq_true z1
            have z1b : decide (1 + tx.size ≤ 9223372036854775807) = true := decide_eq_true z1
            have z1c : (9223372036854775807 < 1 + tx.size) = False := eq_false (Nat.not_lt.2 z1)
            clear htx hts hhd
            go_wp2_with (first | (go_at_call 45; refine (strconv_Itoa.calls _ _ wr (globBelow HG.out B0q.out) hit.out).mono ?_; rintro e w7 ⟨rfl, hb7⟩; have B7 := Aside0.mk hb7; clear hb7) | (go_at_call 44; refine (ws_calls w7 w0.heap.size b _ _ (bis_below hQ.out.bi B7.out) (by rw [ByteArray.size_append, show (⟨#[32]⟩ : ByteArray).size = 1 from rfl]; exact HLE.out) (Nat.le_trans hszq B7.out.size)).mono ?_; rintro e w8 ⟨rfl, hbi8, hb8, ho8⟩; have BI8 := Aside0.mk hbi8; have BW8 := Aside0.mk hb8; have OT8 := Aside0.mk ho8; clear hbi8 hb8 ho8))
            go_round
            case rel => exact ⟨j + 1, by go_num, by omega, ⟨(hQ.out.below B7.out hszq).write hbw (show BIs w8 w0.heap.size b (l ++ linesT p.f3 k ++ headT k i ++ opersT i (j + 1)) by rw [HO1.out, ← List.append_assoc, ← sp_list x, ← HTX.out]; exact BI8.out) BW8.out OT8.out⟩, ⟨OT8.out.block ((B7.out.block w6.heap.size (lt_of_blk hX.out)).trans hX.out) (by have := P5.out.bw.size; omega) (by decide)⟩⟩
            case measure => simp [intOf]; omega
          · obtain rfl : j = u.size := by omega
            have i2 : ¬ (u.size : Int) < (u.size : Int) := by omega
            have hhd : (headT k i).length = (Lib.itoa (k : Int)).length + 1 + nm.size := by
              have hns : nm.size = (nameM i.f0).length := by rw [HNM.out]; simp [ByteArray.size]
              unfold headT
              rw [List.length_append, List.length_cons, hns]
              omega
            have HLE : Aside0 ((l ++ linesT p.f3 k ++ headT k i ++ opersT i u.size).length + 1 ≤ 140737488355328) := ⟨by
              have h2 := HSZ.out
              rw [List.length_append, List.length_append, List.length_append, hhd]
              omega⟩
            clear hhd
            go_wp2_with (go_at_call 47; refine (wb_calls wr w0.heap.size b _ hQ.out.bi HLE.out hszq).mono ?_; rintro e w9 ⟨rfl, hbi9, hb9, ho9⟩; have BI9 := Aside0.mk hbi9; have BW9 := Aside0.mk hb9; have OT9 := Aside0.mk ho9; clear hbi9 hb9 ho9)
            go_round
            case rel => exact ⟨k + 1, by go_num, by omega, ⟨hQ.out.write hbw (show BIs w9 w0.heap.size b (l ++ linesT p.f3 (k + 1)) by rw [HL1.out, lineT, ← HU.out]; have := BI9.out; simp only [List.append_assoc] at this ⊢; exact this) BW9.out OT9.out⟩⟩
            case measure => simp [intOf]; omega
    · obtain rfl : k = p.f3.length := by omega
      have i1 : ¬ (p.f3.length : Int) < (p.f3.length : Int) := by omega
      have hpb := hP.out.pb
      rw [HCS.out] at hpb
      have p5 : wr.cell? ⟨w.heap.size, 5, none⟩ = some (.slice A5 p.f5.length c5) := row_at hpb 5 _ rfl
      clear hpb
      go_wp2_with fail
      clear p5
      obtain ⟨wo, rfl⟩ : ∃ wo : World, wo = wr := ⟨_, rfl⟩
      go_loopw [56] (fun s wr => ∃ (m : Nat) (t : List UInt8), s = .int .i64 m ∧ m ≤ p.f5.length ∧ Aside0 (Pin w0 w wr b t cs) ∧ Aside0 (t ++ textL (p.f5.drop m) m = l ++ textP p)) (fun s _ => p.f5.length - (intOf s).toNat)
      case atStart => exact ⟨0, l ++ linesT p.f3 p.f3.length, rfl, Nat.zero_le _, hP, ⟨by rw [List.drop_zero, HT.out, List.append_assoc]⟩⟩
      case round =>
        obtain ⟨m, t, rfl, hm, hQ, hE⟩ := hrel
        have hszq : w0.heap.size ≤ wr.heap.size := Nat.le_trans hsz0 hQ.out.bw.size
        have B0q : Aside0 (Below w0.heap.size w0 wr) := ⟨HB.out.trans hQ.out.bw⟩
        by_cases hmt : m < p.f5.length
        · have i2 : (m : Int) < (p.f5.length : Int) := by omega
          obtain ⟨ad, D2, d2, D3, d3, D4, d4, D5, d5, rfl, x0, x1, x2, x3, x4, x5, e2, g2, e3, g3, e4, g4, e5, g5⟩ := at_T27 HC5.out (m : Int) (by omega) (by omega)
          have hx : rd_T27 p.f5 (m : Int) = p.f5[m] := by simp [rd_T27, hmt]
          have HQM := Aside0.mk (show p.f5[m] ∈ p.f5 from List.getElem_mem _)
          have HD := Aside0.mk (textL_drop p.f5 m hmt m)
          rw [hx] at x0 x1 x2 x3 x4 x5 e2 g2 e3 g3 e4 g4 e5 g5
          rw [Int.toNat_natCast] at x0 x1 x2 x3 x4 x5
          generalize p.f5[m] = q at x0 x1 x2 x3 x4 x5 e2 g2 e3 g3 e4 g4 e5 g5 HQM HD
          have G := Aside0.mk (And.intro g3 g5)
          replace x0 := pw_cell_below B0q.out x0
          replace x1 := pw_cell_below B0q.out x1
          replace x2 := pw_cell_below B0q.out x2
          replace x3 := pw_cell_below B0q.out x3
          replace x4 := pw_cell_below B0q.out x4
          replace x5 := pw_cell_below B0q.out x5
          clear g2 g3 g4 g5 e2 e3 e4 e5 hx
          have HTOT : Aside0 (t.length + (funT m).length + (textP q).length ≤ 140737488355328) := ⟨by
            have h1 := congrArg List.length hE.out
            rw [HD.out, HT.out] at h1
            simp only [List.length_append] at h1
            have := HLEN.out
            omega⟩
          have hir := Aside0.mk (show -9223372036854775808 ≤ (m : Int) ∧ (m : Int) ≤ 9223372036854775807 by omega)
          obtain ⟨tx, htx⟩ : ∃ tx, tx = itoaOf (m : Int) := ⟨_, rfl⟩
          have HTX := Aside0.mk htx
          have hts : tx.size = (Lib.itoa (m : Int)).length := by rw [htx]; simp [itoaOf, ByteArray.size]
          have hit : Aside0 (strconv_Itoa.f (m : Int) = some tx) := ⟨by rw [itoa_f _ hir.out, htx]⟩
          have hfl : (funT m).length = 9 + tx.size + 1 := by rw [hts]; simp [funT]; omega
          have HFL := Aside0.mk hfl
          have z1 : 9 + tx.size ≤ 9223372036854775807 := by have := HTOT.out; omega
          have z1a := eq_true z1
          have z1b : decide (9 + tx.size ≤ 9223372036854775807) = true := decide_eq_true z1
          have z1c : (9223372036854775807 < 9 + tx.size) = False := eq_false (Nat.not_lt.2 z1)
          have z2 : 9 + tx.size + 1 ≤ 9223372036854775807 := by have := HTOT.out; omega
          have z2a := eq_true z2
          have z2b : decide (9 + tx.size + 1 ≤ 9223372036854775807) = true := decide_eq_true z2
          have z2c : (9223372036854775807 < 9 + tx.size + 1) = False := eq_false (Nat.not_lt.2 z2)
          clear htx hts hfl
          go_wp2_with (first | (go_at_call 45; obtain ⟨W2, hW2⟩ : ∃ W2, W2 = wr.alloc (.cells #[.int .i64 q.f0, .int .i64 q.f1, .slice D2 q.f2.length d2, .slice D3 q.f3.length d3, .slice D4 q.f4.length d4, .slice D5 q.f5.length d5] 27) := ⟨_, rfl⟩; rw [← hW2]; have BA : Below wr.heap.size wr W2 := (by rw [hW2]; exact (Below.refl wr.heap.size wr).alloc (Nat.le_refl _) _); have QB2 := Aside0.mk (heap_alloc_new wr (.cells #[.int .i64 q.f0, .int .i64 q.f1, .slice D2 q.f2.length d2, .slice D3 q.f3.length d3, .slice D4 q.f4.length d4, .slice D5 q.f5.length d5] 27)); rw [← hW2] at QB2; have P2 := Aside0.mk (hQ.out.below BA hszq); have hsz2 : w0.heap.size ≤ W2.heap.size := Nat.le_trans hszq BA.size; have G2 := Aside0.mk (globBelow HG.out (B0q.out.trans (BA.mono hszq))); clear hW2 BA; refine (strconv_Itoa.calls _ _ W2 G2.out hit.out).mono ?_; rintro e w7 ⟨rfl, hb7⟩; have B7 := Aside0.mk hb7; clear hb7) | (go_at_call 44; refine (ws_calls w7 w0.heap.size b t _ (bis_below P2.out.bi B7.out) (by have := HTOT.out; have := HFL.out; rw [ByteArray.size_append, ByteArray.size_append, show (⟨#[102, 117, 110, 99, 116, 105, 111, 110, 32]⟩ : ByteArray).size = 9 from rfl, show (⟨#[10]⟩ : ByteArray).size = 1 from rfl]; omega) (Nat.le_trans hsz2 B7.out.size)).mono ?_; rintro e w8 ⟨rfl, hbi8, hb8, ho8⟩; have BI8 := Aside0.mk hbi8; have P8 : Aside0 (Pin w0 w w8 b (t ++ funT m) cs) := ⟨(P2.out.below B7.out hsz2).write hbw (show BIs w8 w0.heap.size b (t ++ funT m) by rw [← fun_list m, ← HTX.out]; exact hbi8) hb8 ho8⟩; have QB8 := ho8.block ((B7.out.block wr.heap.size (lt_of_blk QB2.out)).trans QB2.out) (by have := hQ.out.bw.size; omega) (by decide); have v0 := row_at QB8 0 (.int .i64 q.f0) rfl; have v1 := row_at QB8 1 (.int .i64 q.f1) rfl; have v2 := row_at QB8 2 (.slice D2 q.f2.length d2) rfl; have v3 := row_at QB8 3 (.slice D3 q.f3.length d3) rfl; have v4 := row_at QB8 4 (.slice D4 q.f4.length d4) rfl; have v5 := row_at QB8 5 (.slice D5 q.f5.length d5) rfl; clear hbi8 hb8 ho8 QB8) | (go_at_call 31; refine (IH.out q (by have := sizeOf_mem HQM.out; have := HP.out; omega) w0 w8 (HB.out.trans P8.out.bw) HG.out D2 d2 D3 d3 D4 d4 D5 d5 G.out.1 G.out.2 (intsL_mem (ints_protos HI.out) HQM.out) b (t ++ funT m) P8.out.bi (by rw [List.length_append, List.length_append]; exact HTOT.out)).mono ?_; rintro e w9 ⟨rfl, hbi9, hb9, ho9⟩; have BI9 := Aside0.mk hbi9; have BW9 := Aside0.mk hb9; have OT9 := Aside0.mk ho9; clear hbi9 hb9 ho9))
          go_round
          case rel => exact ⟨m + 1, t ++ funT m ++ textP q, by go_num, by omega, ⟨P8.out.write hbw BI9.out BW9.out OT9.out⟩, ⟨by rw [← hE.out, HD.out]; simp only [List.append_assoc]⟩⟩
          case measure => simp [intOf]; omega
        · obtain rfl : m = p.f5.length := by omega
          have i2 : ¬ (p.f5.length : Int) < (p.f5.length : Int) := by omega
          have HF : Aside0 (t = l ++ textP p) := ⟨by rw [← hE.out, List.drop_length, textL, List.append_nil]⟩
          go_wp2_with fail
          go_end0
          exact ⟨rfl, by rw [← HF.out]; exact hQ.out.bi, hQ.out.bw, hQ.out.oth⟩
def prog_Print.f (a0_0 : Int) (a0_1 : Int) (l0_2 : List S94) (l0_3 : List S36) (l0_4 : List S98) (l0_5 : List S27) : Option ByteArray := if intsM ⟨a0_0, a0_1, l0_2, l0_3, l0_4, l0_5⟩ = true ∧ (textP ⟨a0_0, a0_1, l0_2, l0_3, l0_4, l0_5⟩).length ≤ 140737488355328 then some ⟨(textP ⟨a0_0, a0_1, l0_2, l0_3, l0_4, l0_5⟩).toArray⟩ else none
set_option maxRecDepth 100000 in
set_option maxHeartbeats 2000000 in
theorem prog_Print.calls (a0_0 : Int) (a0_1 : Int) (A0_2 : Option Addr) (c0_2 : Nat) (l0_2 : List S94) (A0_3 : Option Addr) (c0_3 : Nat) (l0_3 : List S36) (A0_4 : Option Addr) (c0_4 : Nat) (l0_4 : List S98) (A0_5 : Option Addr) (c0_5 : Nat) (l0_5 : List S27) (r : ByteArray) (w : World)
    (hr0_2 : Kd.C k94 w A0_2 l0_2.length l0_2) (hc0_2 : l0_2.length ≤ c0_2) (hr0_3 : Kd.C k36 w A0_3 l0_3.length l0_3) (hc0_3 : l0_3.length ≤ c0_3) (hr0_4 : Kd.C k98 w A0_4 l0_4.length l0_4) (hc0_4 : l0_4.length ≤ c0_4) (hr0_5 : Kd.C k27 w A0_5 l0_5.length l0_5) (hc0_5 : l0_5.length ≤ c0_5) (hG : OrdersLaid w) (h : prog_Print.f a0_0 a0_1 l0_2 l0_3 l0_4 l0_5 = some r) :
    Calls Tryd.prog 13 #[.agg #[.int .i64 a0_0, .int .i64 a0_1, .slice A0_2 l0_2.length c0_2, .slice A0_3 l0_3.length c0_3, .slice A0_4 l0_4.length c0_4, .slice A0_5 l0_5.length c0_5]] w fun e w' => e = .returned (.string r) ∧ Below w.heap.size w w' := by
  unfold prog_Print.f at h
  split at h
  · rename_i hc
    obtain rfl := Option.some.inj h
    obtain ⟨W1, hW1⟩ : ∃ W1, W1 = w.alloc (.cells #[.int .i64 a0_0, .int .i64 a0_1, .slice A0_2 l0_2.length c0_2, .slice A0_3 l0_3.length c0_3, .slice A0_4 l0_4.length c0_4, .slice A0_5 l0_5.length c0_5] 27) := ⟨_, rfl⟩
    have B1 : Below w.heap.size w W1 := by rw [hW1]; exact (Below.refl w.heap.size w).alloc (Nat.le_refl _) _
    have hs1 : W1.heap.size = w.heap.size + 1 := by rw [hW1]; simp
    have PB1 : W1.heap[w.heap.size]? = some (.cells #[.int .i64 a0_0, .int .i64 a0_1, .slice A0_2 l0_2.length c0_2, .slice A0_3 l0_3.length c0_3, .slice A0_4 l0_4.length c0_4, .slice A0_5 l0_5.length c0_5] 27 (0, 0)) := by rw [hW1]; exact heap_alloc_new w _
    obtain ⟨W2, hW2⟩ : ∃ W2, W2 = W1.alloc (.cells #[.pointer none, .slice none 0 0] 58) := ⟨_, rfl⟩
    have B2 : Below W1.heap.size W1 W2 := by rw [hW2]; exact (Below.refl W1.heap.size W1).alloc (Nat.le_refl _) _
    have BI2 : BIs W2 W1.heap.size W1.heap.size [] := by rw [hW2]; exact BIs.fresh W1
    have HF := Aside0.mk (prints_calls _ ⟨a0_0, a0_1, l0_2, l0_3, l0_4, l0_5⟩ (Nat.le_refl _) W1 W2 B2 (globBelow hG B1) A0_2 c0_2 A0_3 c0_3 A0_4 c0_4 A0_5 c0_5 (Kd.C_below hr0_3 B1) (Kd.C_below hr0_5 B1) hc.1 W1.heap.size [] BI2 (by rw [List.nil_append]; exact hc.2))
    have HB1 := Aside0.mk B1
    have HB2 := Aside0.mk B2
    have PB2 := (B2.block w.heap.size (by omega)).trans PB1
    have k0 := row_at PB2 0 (.int .i64 a0_0) rfl
    have k1 := row_at PB2 1 (.int .i64 a0_1) rfl
    have k2 := row_at PB2 2 (.slice A0_2 l0_2.length c0_2) rfl
    have k3 := row_at PB2 3 (.slice A0_3 l0_3.length c0_3) rfl
    have k4 := row_at PB2 4 (.slice A0_4 l0_4.length c0_4) rfl
    have k5 := row_at PB2 5 (.slice A0_5 l0_5.length c0_5) rfl
    rw [hW2] at k0 k1 k2 k3 k4 k5
    rw [hW1] at k0 k1 k2 k3 k4 k5
    have HS1 := Aside0.mk hs1
    clear hr0_2 hr0_3 hr0_4 hr0_5 hc0_2 hc0_3 hc0_4 hc0_5 hG h hc B1 B2 BI2 PB1 PB2
    go_enter Tryd.func13, Tryd.ntmps13
    go_wp2_with (first
      | (go_at_call 31; rw [← hW1, ← hW2]; rw [hs1] at HF; refine HF.out.mono ?_; rintro e w3 ⟨rfl, hbi, hbw, hot⟩; rw [List.nil_append] at hbi; have BI3 := Aside0.mk hbi; have BW3 := Aside0.mk hbw; clear hbi hbw hot)
      | (go_at_call 32; refine (st_calls w3 _ _ _ BI3.out (by have := BW3.out.size; have := HB2.out.size; omega)).mono ?_; rintro e w4 ⟨rfl, hb4⟩; have B4 := Aside0.mk hb4; clear hb4))
    go_ret
    exact ⟨rfl, HB1.out.trans ((HB2.out.mono (by have := HS1.out; omega)).trans ((BW3.out.trans B4.out).mono (by omega)))⟩
  · cases h
end Go.Proofs.YtlhnkfheojlghaaDoor.Pr
