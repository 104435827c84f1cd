/- DiskFast: a contract of its call. -/
import Derived.Test.YtlbeehefandfhaaProg
import Derived.Below
import Derived.Deep.Draws
import Derived.Deep.AppendLies
import Derived.Maps.AppendAt
import Derived.OwnWalk
import Derived.Laws.BytesArg
import Derived.Laws.MakeOwn
import Derived.Laws.OwnMore
import Derived.Deep.OwnRows
import Derived.Tactics
import Derived.Lib.ConvBytes
import Derived.Laws.Slices
import Derived.WalkKit
import Derived.KernelRfl
import Derived.RowKit3
import Derived.Deep.LoopGhost
import Derived.Deep.QuietTactic
import Derived.BigQuiet
import Derived.WideLaws
import Derived.Deep.DeepCutAuto
import Derived.Deep.CutBlock
import Derived.Deep.RegionHeld3
import Derived.Laws.Rows
import Derived.Lib.AppendStr
import Derived.ArgAppend
import Derived.Laws.IdiomCopy
import Derived.OrdersHeld
import Derived.Laws.BitsLemmas
import Derived.RowKit
import Derived.Test.YtlbeehefandfhaaWWords
import Derived.Test.YtlbeehefandfhaaWLast
import Derived.Test.YtlbeehefandfhaaWTab
import Derived.Test.YtlbeehefandfhaaWFour
import Derived.Test.YtlbeehefandfhaaWQPut
import Derived.Test.YtlbeehefandfhaaWApart
import Derived.Test.YtlbeehefandfhaaWArr
import Derived.Test.YtlbeehefandfhaaWZeros
import Derived.Test.YtlbeehefandfhaaWFoot
import Derived.Test.YtlbeehefandfhaaWKept
import Derived.Test.YtlbeehefandfhaaWShare
import Derived.Test.YtlbeehefandfhaaWN
import Derived.Test.YtlbeehefandfhaaWFootNe
import Derived.Test.YtlbeehefandfhaaWAt
import Derived.Test.YtlbeehefandfhaaWEqStruct
import Derived.Test.YtlbeehefandfhaaWRepsOne
import Derived.Test.YtlbeehefandfhaaWInv
import Derived.Test.YtlbeehefandfhaaWInvWords
import Derived.Test.YtlbeehefandfhaaWGuard
import Derived.Test.YtlbeehefandfhaaWNEv
import Derived.Test.YtlbeehefandfhaaWMore
import Derived.Test.YtlbeehefandfhaaDiskN
namespace Go.Proofs.Ytlbeehefandfhaa.Pr
open Go.RowKit Go.Maps Go.Sort Go.Proofs.YtlbeehefandfhaaW.PrintWords Go.Proofs.YtlbeehefandfhaaW.PrintLast Go.Proofs.YtlbeehefandfhaaW.PrintMore
set_option linter.unusedVariables false
set_option linter.unusedSimpArgs false
theorem DiskAt.old {w0 w : World} {p : PD} {d : Nat} (h : DiskAt w0 p d w) : Below w0.heap.size w0 w := by
  obtain ⟨s, h1, h2, h3, h4, h5⟩ := h
  exact h5
theorem DiskAt.drewN {w0 w : World} {p : PD} {d : Nat} (h : DiskAt w0 p d w) (n : Nat) : DiskAt w0 p d (w.drewN n) := by
  obtain ⟨s, h1, h2, h3, h4, h5⟩ := h
  exact ⟨s, h1.drewN n, h2, h3, h4, pw_below_drewN h5 n⟩
theorem str_append (l m : List Int) : strOfNums (l ++ m) = strOfNums l ++ strOfNums m := by
  have : (strOfNums (l ++ m)).data.toList = (strOfNums l ++ strOfNums m).data.toList := by
    rw [strOfNums_data, List.map_append]
    have : (strOfNums l ++ strOfNums m).data = (strOfNums l).data ++ (strOfNums m).data := by
      simp
    rw [this, Array.toList_append, strOfNums_data, strOfNums_data]
  exact Go.WideShapes.bytes_inj this
theorem str_nil : strOfNums [] = ⟨#[]⟩ := rfl
/-- append([]byte{}, x...), at the append. -/
theorem wpList_copy_d {W : World} {ops : Array Oper} {rest : List Oper} {o : Oper} {a : Act} {Q : Exit → Act → World → Prop} (hgd : o.guard = none) (s x : Operand)
    (ho : o.op = .call { callee := .builtin .append, args := #[s, x], argTypes := #[22, 22] }) (hs : a.eval s = .slice (some ⟨W.heap.size, 0, none⟩) 0 0) (A : Option Addr) (c : Nat) (l : List Int) (hx : a.eval x = .slice A l.length c)
    (hC : Kd.C (Kd.int .u8) W A l.length l) (hc : l.length ≤ c) (hb : l.length ≤ 140737488355328)
    (h : ∀ A1 c1 w1, Young W w1 A1 c1 l → Below W.heap.size W w1 → wpList Try.prog ops Q rest (a.put o.dst (.slice A1 l.length c1)) w1) :
    wpList Try.prog ops Q (o :: rest) a (W.alloc (.cells #[] 5)) := by
  have hba : Below W.heap.size W (W.alloc (.cells #[] 5)) := (Below.refl _ W).alloc (Nat.le_refl _) _
  refine wpList_append_d hgd s x ho W.heap.size (.slice (some ⟨W.heap.size, 0, none⟩) 0 0) [] l hs (.inr ⟨W.heap.size, 0, #[], rfl, Nat.le_refl _, heap_alloc_new W _, Nat.le_refl _, Nat.zero_le _, Nat.zero_le _, rfl⟩) (.slice A l.length c) hx (src_of_C (Kd.C_below hC hba) hc) (by simpa using hb) (by simp) ?_
  intro v1 w1 hown hgr hat
  obtain ⟨A1, c1, hv, h1, h2⟩ := hown.slice
  rw [List.nil_append] at hown hv h1
  subst hv
  exact h A1 c1 w1 (Young.row hown) (hba.grown hgr (by simp) (fun k hk => Nat.le_of_eq (by simpa [Value.ownBlock] using hk)))
/-- What is kept of what does not stand fast. -/
def kOf (keep : Int) (n : Nat) : Nat := (min (max keep 0) n).toNat
theorem kOf_le (keep : Int) (n : Nat) : kOf keep n ≤ n := by unfold kOf; omega
def fastX (la lb lt : List Int) (keep : Int) : List Int := la ++ lb.take (kOf keep lb.length) ++ (if lb.length = 0 then [] else lt)
theorem C_take {w : World} {A : Option Addr} {l : List Int} {m : Nat} (h : Kd.C (Kd.int .u8) w A l.length l) (hm : m ≤ l.length) : Kd.C (Kd.int .u8) w A m (l.take m) := by
  have hl : (l.take m).length = m := by rw [List.length_take]; omega
  obtain ⟨h1, h2, h3⟩ := Kd.reads_of_C (d := (0 : Int)) h
  refine Kd.C_of_reads (d := (0 : Int)) ⟨hl, by omega, fun hp => ?_⟩
  obtain ⟨ad, e, hcell⟩ := h3 (by omega)
  refine ⟨ad, e, fun j hj => ?_⟩
  rw [hcell j (by omega)]
  simp [List.getD_eq_getElem?_getD, List.getElem?_take, hj]
theorem str_of_C {w : World} {A : Option Addr} {l : List Int} {m : Nat} (h : Kd.C (Kd.int .u8) w A m l) (hm : l.length = m) (c : Nat) : (convert 22 9 (.slice A m c)).run Try.prog w = .ok (.string (strOfNums l)) w := by
  subst hm
  exact Kd.C_string (P := Try.prog) Try.underlying22 Try.underlying5 Try.underlying9 h
theorem pFast1 (la : List Int) (h : la.length ≤ 1000) : pAppend ⟨[], 1048576, -1, false⟩ [102] la = (⟨[⟨[102], la, 0⟩], 1048576, -1, false⟩, 0) := by
  rw [pAppend_none rfl (by decide) (by show ¬ (la.length : Int) > 1048576 - 0; omega) rfl]
  rfl
theorem pFast2 (la : List Int) : pSync ⟨[⟨[102], la, 0⟩], 1048576, -1, false⟩ [102] = (⟨[⟨[102], la, la.length⟩], 1048576, -1, false⟩, 0) := rfl
theorem pFast3 (la lb : List Int) (h : la.length ≤ 1000) (h2 : lb.length ≤ 1000) : pAppend ⟨[⟨[102], la, la.length⟩], 1048576, -1, false⟩ [102] lb = (⟨[⟨[102], la ++ lb, la.length⟩], 1048576, -1, false⟩, 0) := by
  rw [pAppend_some (f := ⟨[102], la, la.length⟩) rfl (by decide) (by show ¬ (lb.length : Int) > 1048576 - ((la.length : Int) + 0); omega) rfl]
  rfl
theorem pFast4 (la lb lt : List Int) (keep : Int) (h : la.length ≤ 1000) (h2 : lb.length ≤ 1000) (h3 : lt.length ≤ 1000) :
    pCrash ⟨[⟨[102], la ++ lb, la.length⟩], 1048576, -1, false⟩ keep lt = ⟨[⟨[102], fastX la lb lt keep, (fastX la lb lt keep).length⟩], 1048576, -1, false⟩ := by
  unfold pCrash
  by_cases hb : lb.length = 0
  · have hl : lb = [] := List.length_eq_zero_iff.1 hb
    subst hl
    have hs : isTorn ⟨[102], la ++ [], la.length⟩ = false := by simp [isTorn]
    simp only [fillL, hs]
    simp [fastX]
  · have hs : isTorn ⟨[102], la ++ lb, la.length⟩ = true := by
      unfold isTorn
      simp
      exact fun e => hb (by rw [e]; rfl)
    have hk : keptN keep ⟨[102], la ++ lb, la.length⟩ = la.length + kOf keep lb.length := by
      unfold keptN kOf
      simp only [List.length_append]
      omega
    have hte : tear keep ⟨[102], la ++ lb, la.length⟩ = ⟨[102], la ++ lb.take (kOf keep lb.length), la.length⟩ := by
      rw [tear_torn hs, hk]
      congr 1
      rw [List.take_length_add_append]
    have hkl := kOf_le keep lb.length
    have htn : tailN 1048576 lt (total [tear keep ⟨[102], la ++ lb, la.length⟩]) = lt.length := by
      rw [hte]
      unfold tailN total total
      simp only [List.length_append, List.length_take]
      omega
    simp only [fillL, hs, if_true, List.map_cons, List.map_nil]
    unfold fillOne
    rw [htn, hte, List.take_length]
    unfold fastX
    rw [if_neg hb]
    simp only [List.length_append]
set_option maxRecDepth 100000 in
set_option maxHeartbeats 2000000 in
theorem diskFast_calls (w : World) (Aa : Option Addr) (ca : Nat) (la : List Int) (Ab : Option Addr) (cb : Nat) (lb : List Int) (keep : Int) (At : Option Addr) (ct : Nat) (lt : List Int)
    (hra : Kd.C (Kd.int .u8) w Aa la.length la) (hca : la.length ≤ ca) (hrb : Kd.C (Kd.int .u8) w Ab lb.length lb) (hcb : lb.length ≤ cb) (hrt : Kd.C (Kd.int .u8) w At lt.length lt) (hct : lt.length ≤ ct)
    (hk1 : -9223372036854775808 ≤ keep) (hk2 : keep ≤ 9223372036854775807) :
    Calls Try.prog 3 #[.slice Aa la.length ca, .slice Ab lb.length cb, .agg #[.int .i64 keep, .slice At lt.length ct]] w fun e w' => e = .returned (.bool true) ∧ Below w.heap.size w w' := by
  have hla := (Kd.reads_of_C (d := (0 : Int)) hra).2.1
  have hlb := (Kd.reads_of_C (d := (0 : Int)) hrb).2.1
  have hlt := (Kd.reads_of_C (d := (0 : Int)) hrt).2.1
  have RA := Aside0.mk hra
  have RB := Aside0.mk hrb
  have RT := Aside0.mk hrt
  clear hra hrb hrt
  by_cases hsm : la.length ≤ 1000 ∧ lb.length ≤ 1000 ∧ lt.length ≤ 1000
  · obtain ⟨s1, s2, s3⟩ := hsm
    have t1 : ¬ 1000 < la.length := by omega
    have t2 : ¬ 1000 < lb.length := by omega
    have t3 : ¬ 1000 < lt.length := by omega
    go_enter Try.func3, Try.ntmps3
    go_wp2_with fail
    go_quiet (fail)
    go_wp2_with fail
    refine (new_calls _ 1048576 (by omega) (by omega)).mono ?_
    rintro e w1 ⟨s0, rfl, hN0⟩
    obtain ⟨d, hd⟩ : ∃ d, d = s0.d := ⟨_, rfl⟩
    have N0 := Aside0.mk (DiskAt.of_new (pw_below_drewN ((Below.refl w.heap.size w).alloc (Nat.le_refl _) _) _) hN0)
    rw [← hd] at N0 ⊢
    clear hN0 hd
    go_wp2_with (at_builtin; refine wpList_copy_d rfl _ _ rfl rfl Aa ca la rfl (Kd.C_below RA.out N0.out.old) hca (by omega) ?_; intro A1 c1 w2 hY hB; have Y1 := Aside0.mk hY; have B1 := Aside0.mk hB; clear hY hB)
    refine (append_at N0.out B1.out ⟨#[102]⟩ (by decide) A1 c1 la Y1.out (by decide)).mono ?_
    rintro e w3 ⟨rfl, hO⟩
    rw [show pAppend ⟨[], 1048576, -1, false⟩ (⟨#[102]⟩ : ByteArray).data.toList la = _ from pFast1 la s1] at hO ⊢
    have O1 := Aside0.mk hO
    clear hO
    go_wp2_with fail
    refine (sync_at O1.out ⟨#[102]⟩ (by decide)).mono ?_
    rintro e w4 ⟨rfl, hO⟩
    rw [show pSync ⟨[⟨[102], la, 0⟩], 1048576, -1, false⟩ (⟨#[102]⟩ : ByteArray).data.toList = _ from pFast2 la] at hO ⊢
    have O2 := Aside0.mk hO
    clear hO
    go_wp2_with (at_builtin; refine wpList_copy_d rfl _ _ rfl rfl Ab cb lb rfl (Kd.C_below RB.out O2.out.old) hcb (by omega) ?_; intro A2 c2 w5 hY hB; have Y2 := Aside0.mk hY; have B2 := Aside0.mk hB; clear hY hB)
    refine (append_at O2.out B2.out ⟨#[102]⟩ (by decide) A2 c2 lb Y2.out (by show 1 ≤ 1000000; omega)).mono ?_
    rintro e w6 ⟨rfl, hO⟩
    rw [show pAppend ⟨[⟨[102], la, la.length⟩], 1048576, -1, false⟩ (⟨#[102]⟩ : ByteArray).data.toList lb = _ from pFast3 la lb s1 s2] at hO ⊢
    have O3 := Aside0.mk hO
    clear hO
    go_wp2_with (at_builtin; refine wpList_copy_d rfl _ _ rfl rfl At ct lt rfl (Kd.C_below RT.out O3.out.old) hct (by omega) ?_; intro A3 c3 w7 hY hB; have Y3 := Aside0.mk hY; have B3 := Aside0.mk hB; clear hY hB)
    refine (crash_at O3.out B3.out keep hk1 hk2 A3 c3 lt Y3.out (by show 1 ≤ 1000000; omega)).mono ?_
    rintro e w8 ⟨rfl, hO⟩
    rw [pFast4 la lb lt keep s1 s2 s3] at hO
    have O4 := Aside0.mk hO
    clear hO
    obtain ⟨X, hX⟩ : ∃ X, X = fastX la lb lt keep := ⟨_, rfl⟩
    rw [← hX] at O4
    have HX := Aside0.mk hX
    clear hX
    go_wp2_with fail
    refine (read_at O4.out ⟨#[102]⟩ (by decide)).mono ?_
    rintro e w9 ⟨v, rfl, hR, hO⟩
    rw [show pRead ⟨[⟨[102], X, X.length⟩], 1048576, -1, false⟩ (⟨#[102]⟩ : ByteArray).data.toList = (X, true) from rfl] at hR ⊢
    obtain ⟨Ax, cx, hv, _, _⟩ := hR.slice
    subst hv
    have O5 := Aside0.mk hO
    have RX := Aside0.mk hR.reads.2
    have ca' : ∀ n, (convert 22 9 (.slice Aa la.length ca)).run Try.prog (w9.drewN n) = .ok (.string (strOfNums la)) (w9.drewN n) := fun n => str_of_C (Kd.C_drewN (Kd.C_below RA.out hO.old) n) rfl ca
    have cb' : ∀ n, (convert 22 9 (.slice Ab (kOf keep lb.length) cb)).run Try.prog (w9.drewN n) = .ok (.string (strOfNums (lb.take (kOf keep lb.length)))) (w9.drewN n) := fun n => str_of_C (Kd.C_drewN (C_take (Kd.C_below RB.out hO.old) (kOf_le _ _)) n) (by rw [List.length_take]; exact Nat.min_eq_left (kOf_le _ _)) cb
    have ct' : ∀ n, (convert 22 9 (.slice At lt.length ct)).run Try.prog (w9.drewN n) = .ok (.string (strOfNums lt)) (w9.drewN n) := fun n => str_of_C (Kd.C_drewN (Kd.C_below RT.out hO.old) n) rfl ct
    have hkle := kOf_le keep lb.length
    obtain ⟨K, hK⟩ : ∃ K, K = kOf keep lb.length := ⟨_, rfl⟩
    have hKd : K = (min (max keep 0) lb.length).toNat := hK
    rw [← hK] at cb' hkle
    have HK := Aside0.mk hK
    have hkz : (strOfNums (lb.take K)).size = K := by rw [strOfNums_size, List.length_take]; exact Nat.min_eq_left hkle
    have hstr : lb.length = 0 ∧ strOfNums X = strOfNums la ++ strOfNums (lb.take K) ∨ 0 < lb.length ∧ strOfNums X = strOfNums la ++ strOfNums (lb.take K) ++ strOfNums lt := by
      rw [HX.out]
      unfold fastX
      rw [← HK.out]
      by_cases hb : lb.length = 0
      · rw [if_pos hb, List.append_nil, str_append]
        exact .inl ⟨hb, rfl⟩
      · rw [if_neg hb, str_append, str_append]
        exact .inr ⟨by omega, rfl⟩
    have hza := strOfNums_size la
    have hzt := strOfNums_size lt
    generalize strOfNums la = sa at ca' hstr hza
    generalize strOfNums (lb.take K) = sb at cb' hstr hkz
    generalize strOfNums lt = st at ct' hstr hzt
    have ad1 : ¬ 9223372036854775807 < sa.size + sb.size := by omega
    have ad2 : ¬ 9223372036854775807 < sa.size + sb.size + st.size := by omega
    clear hO hR hK hza hzt hkz
    rcases hstr with ⟨hb0, hs⟩ | ⟨hb0, hs⟩
    · have cx' : ∀ n, (convert 22 9 (.slice Ax X.length cx)).run Try.prog (w9.drewN n) = .ok (.string (sa ++ sb)) (w9.drewN n) := fun n => by rw [← hs]; exact str_of_C (Kd.C_drewN RX.out n) rfl cx
      have hz : ¬ 0 < lb.length := by omega
      have hK0 : K = 0 := by omega
      subst hK0
      clear hs hKd hb0 hkle
      by_cases h1 : keep < 0
      · go_wp2_with fail
        go_quiet (fail)
        go_wp2_with (first
          | (go_at_call 13; refine (fast_at (O5.out.drewN _) ⟨#[102]⟩ (by decide)).mono ?_; rintro e w10 ⟨rfl, rfl⟩; rw [show pFast ⟨[⟨[102], X, X.length⟩], 1048576, -1, false⟩ (⟨#[102]⟩ : ByteArray).data.toList = (X.length : Int) from rfl])
          | (go_at_call 8; refine (lives_calls _).mono ?_; rintro e w11 ⟨rfl, hb⟩; have BL := Aside0.mk hb; clear hb))
        go_ret
        exact ⟨rfl, (pw_below_drewN O5.out.old _).trans (BL.out.mono O5.out.old.size)⟩
      · by_cases h2 : 0 < keep
        · have h3 : (lb.length : Int) < keep := by omega
          have hl0 : lb.length = 0 := by omega
          rw [show (0 : Nat) = lb.length from hl0.symm] at cb'
          clear hl0
          go_wp2_with fail
          go_quiet (fail)
          go_wp2_with (first
            | (go_at_call 13; refine (fast_at (O5.out.drewN _) ⟨#[102]⟩ (by decide)).mono ?_; rintro e w10 ⟨rfl, rfl⟩; rw [show pFast ⟨[⟨[102], X, X.length⟩], 1048576, -1, false⟩ (⟨#[102]⟩ : ByteArray).data.toList = (X.length : Int) from rfl])
            | (go_at_call 8; refine (lives_calls _).mono ?_; rintro e w11 ⟨rfl, hb⟩; have BL := Aside0.mk hb; clear hb))
          go_ret
          exact ⟨rfl, (pw_below_drewN O5.out.old _).trans (BL.out.mono O5.out.old.size)⟩
        · obtain rfl : keep = 0 := by omega
          go_wp2_with fail
          go_quiet (fail)
          go_wp2_with (first
            | (go_at_call 13; refine (fast_at (O5.out.drewN _) ⟨#[102]⟩ (by decide)).mono ?_; rintro e w10 ⟨rfl, rfl⟩; rw [show pFast ⟨[⟨[102], X, X.length⟩], 1048576, -1, false⟩ (⟨#[102]⟩ : ByteArray).data.toList = (X.length : Int) from rfl])
            | (go_at_call 8; refine (lives_calls _).mono ?_; rintro e w11 ⟨rfl, hb⟩; have BL := Aside0.mk hb; clear hb))
          go_ret
          exact ⟨rfl, (pw_below_drewN O5.out.old _).trans (BL.out.mono O5.out.old.size)⟩
    · have cx' : ∀ n, (convert 22 9 (.slice Ax X.length cx)).run Try.prog (w9.drewN n) = .ok (.string (sa ++ sb ++ st)) (w9.drewN n) := fun n => by rw [← hs]; exact str_of_C (Kd.C_drewN RX.out n) rfl cx
      clear hs
      rcases (by omega : keep < 0 ∧ K = 0 ∨ (lb.length : Int) < keep ∧ K = lb.length ∨ 0 ≤ keep ∧ keep ≤ lb.length ∧ keep = (K : Int)) with ⟨h1, rfl⟩ | ⟨h1, rfl⟩ | ⟨h1, h2, h3⟩
      · clear hKd
        go_wp2_with fail
        go_quiet (fail)
        go_wp2_with (first
          | (go_at_call 13; refine (fast_at (O5.out.drewN _) ⟨#[102]⟩ (by decide)).mono ?_; rintro e w10 ⟨rfl, rfl⟩; rw [show pFast ⟨[⟨[102], X, X.length⟩], 1048576, -1, false⟩ (⟨#[102]⟩ : ByteArray).data.toList = (X.length : Int) from rfl])
          | (go_at_call 8; refine (lives_calls _).mono ?_; rintro e w11 ⟨rfl, hb⟩; have BL := Aside0.mk hb; clear hb))
        go_ret
        exact ⟨rfl, (pw_below_drewN O5.out.old _).trans (BL.out.mono O5.out.old.size)⟩
      · clear hKd
        go_wp2_with fail
        go_quiet (fail)
        go_wp2_with (first
          | (go_at_call 13; refine (fast_at (O5.out.drewN _) ⟨#[102]⟩ (by decide)).mono ?_; rintro e w10 ⟨rfl, rfl⟩; rw [show pFast ⟨[⟨[102], X, X.length⟩], 1048576, -1, false⟩ (⟨#[102]⟩ : ByteArray).data.toList = (X.length : Int) from rfl])
          | (go_at_call 8; refine (lives_calls _).mono ?_; rintro e w11 ⟨rfl, hb⟩; have BL := Aside0.mk hb; clear hb))
        go_ret
        exact ⟨rfl, (pw_below_drewN O5.out.old _).trans (BL.out.mono O5.out.old.size)⟩
      · clear hKd
        go_wp2_with fail
        go_quiet (fail)
        go_wp2_with (first
          | (go_at_call 13; refine (fast_at (O5.out.drewN _) ⟨#[102]⟩ (by decide)).mono ?_; rintro e w10 ⟨rfl, rfl⟩; rw [show pFast ⟨[⟨[102], X, X.length⟩], 1048576, -1, false⟩ (⟨#[102]⟩ : ByteArray).data.toList = (X.length : Int) from rfl])
          | (go_at_call 8; refine (lives_calls _).mono ?_; rintro e w11 ⟨rfl, hb⟩; have BL := Aside0.mk hb; clear hb))
        go_ret
        exact ⟨rfl, (pw_below_drewN O5.out.old _).trans (BL.out.mono O5.out.old.size)⟩
  · by_cases t1 : 1000 < la.length
    · clear hsm
      go_enter Try.func3, Try.ntmps3
      go_wp2_with fail
      go_quiet (fail)
      go_wp2_with fail
      refine (new_calls _ 1048576 (by omega) (by omega)).mono ?_
      rintro e w1 ⟨s0, rfl, hN0⟩
      have N0 := Aside0.mk (pw_below_drewN ((Below.refl w.heap.size w).alloc (Nat.le_refl _) _) _ |>.trans (hN0.below.mono (by simp)))
      clear hN0
      go_wp2_with (go_at_call 8; refine (lives_calls _).mono ?_; rintro e w11 ⟨rfl, hb⟩; have BL := Aside0.mk hb; clear hb)
      go_ret
      exact ⟨rfl, N0.out.trans (BL.out.mono N0.out.size)⟩
    · by_cases t2 : 1000 < lb.length
      · clear hsm
        go_enter Try.func3, Try.ntmps3
        go_wp2_with fail
        go_quiet (fail)
        go_wp2_with fail
        refine (new_calls _ 1048576 (by omega) (by omega)).mono ?_
        rintro e w1 ⟨s0, rfl, hN0⟩
        have N0 := Aside0.mk (pw_below_drewN ((Below.refl w.heap.size w).alloc (Nat.le_refl _) _) _ |>.trans (hN0.below.mono (by simp)))
        clear hN0
        go_wp2_with (go_at_call 8; refine (lives_calls _).mono ?_; rintro e w11 ⟨rfl, hb⟩; have BL := Aside0.mk hb; clear hb)
        go_ret
        exact ⟨rfl, N0.out.trans (BL.out.mono N0.out.size)⟩
      · have t3 : 1000 < lt.length := by omega
        clear hsm
        go_enter Try.func3, Try.ntmps3
        go_wp2_with fail
        go_quiet (fail)
        go_wp2_with fail
        refine (new_calls _ 1048576 (by omega) (by omega)).mono ?_
        rintro e w1 ⟨s0, rfl, hN0⟩
        have N0 := Aside0.mk (pw_below_drewN ((Below.refl w.heap.size w).alloc (Nat.le_refl _) _) _ |>.trans (hN0.below.mono (by simp)))
        clear hN0
        go_wp2_with (go_at_call 8; refine (lives_calls _).mono ?_; rintro e w11 ⟨rfl, hb⟩; have BL := Aside0.mk hb; clear hb)
        go_ret
        exact ⟨rfl, N0.out.trans (BL.out.mono N0.out.size)⟩
end Go.Proofs.Ytlbeehefandfhaa.Pr
