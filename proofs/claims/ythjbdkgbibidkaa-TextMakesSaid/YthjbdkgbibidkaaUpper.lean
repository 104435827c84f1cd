/- text.Upper: the contract of its call. -/
import Derived.Test.YthjbdkgbibidkaaReverse
namespace Go.Proofs.Ythjbdkgbibidkaa.Pr
open Go.RowKit Go.Sort Go.Proofs.YthjbdkgbibidkaaW.PrintWords Go.Proofs.YthjbdkgbibidkaaW.PrintLast Go.Proofs.YthjbdkgbibidkaaW.PrintMore
set_option linter.unusedVariables false
set_option linter.unusedSimpArgs false
def up1 (x : Int) : Int := if 97 ≤ x ∧ x ≤ 122 then x - 32 else x
def Uppered (d dk : Array Int) (i : Nat) : Prop := dk.size = d.size ∧ ∀ k, k < d.size → dk[k]! = if k < i then up1 d[k]! else d[k]!
theorem Uppered.start (d : Array Int) : Uppered d d 0 := ⟨rfl, fun k hk => by rw [if_neg (by omega)]⟩
theorem Uppered.keep {d dk : Array Int} {i : Nat} (h : Uppered d dk i) (hi : i < d.size) (hx : up1 dk[i]! = dk[i]!) : Uppered d dk (i + 1) := by
  refine ⟨h.1, fun k hk => ?_⟩
  rw [h.2 k hk]
  by_cases c : k < i
  · rw [if_pos c, if_pos (by omega)]
  · rw [if_neg c]
    by_cases e : k = i
    · subst e
      rw [if_pos (by omega)]
      have := h.2 k hk
      rw [if_neg c] at this
      rw [← this, hx]
    · rw [if_neg (by omega)]
theorem Uppered.turn {d dk : Array Int} {i : Nat} (h : Uppered d dk i) (hi : i < d.size) : Uppered d (dk.setIfInBounds i (up1 dk[i]!)) (i + 1) := by
  refine ⟨by rw [Array.size_setIfInBounds]; exact h.1, fun k hk => ?_⟩
  have hk2 : k < dk.size := by rw [h.1]; exact hk
  have hk3 : k < (dk.setIfInBounds i (up1 dk[i]!)).size := by rw [Array.size_setIfInBounds]; exact hk2
  rw [getElem!_pos _ k hk3, Array.getElem_setIfInBounds hk2]
  by_cases e : i = k
  · subst e
    rw [if_pos rfl, if_pos (by omega), h.2 i hk, if_neg (by omega)]
  · rw [if_neg e, ← getElem!_pos dk k hk2, h.2 k hk]
    by_cases c : k < i
    · rw [if_pos c, if_pos (by omega)]
    · rw [if_neg c, if_neg (by omega)]
theorem Uppered.done {d dk : Array Int} {i : Nat} (h : Uppered d dk i) (hi : d.size ≤ i) : dk = d.map up1 := by
  apply Array.ext
  · rw [h.1, Array.size_map]
  · intro k h1 h2
    have hk : k < d.size := by rw [← h.1]; exact h1
    have := h.2 k hk
    rw [getElem!_pos dk k h1, if_pos (by omega), getElem!_pos d k hk] at this
    rw [this, Array.getElem_map]
theorem numsB_range (s : ByteArray) : ∀ k, k < s.size → 0 ≤ (numsB s).toArray[k]! ∧ (numsB s).toArray[k]! ≤ 255 := by
  intro k hk
  have h1 : k < (numsB s).toArray.size := by rw [List.size_toArray, numsB_length]; exact hk
  rw [getElem!_pos _ k h1]
  simp only [numsB, List.getElem_toArray, List.getElem_map]
  have := UInt8.toNat_lt (s.data.toList[k]'(by rw [Array.length_toList]; exact hk))
  omega
def text_Upper.f (a0 : ByteArray) : Option ByteArray := if a0.size ≤ 140737488355328 then some (strOfNums ((numsB a0).map up1)) else none
set_option maxHeartbeats 1600000 in
set_option maxRecDepth 100000 in
theorem text_Upper.calls (a0 : ByteArray) (r : ByteArray) (w : World) (h : text_Upper.f a0 = some r) :
    Calls Try.prog 23 #[.string a0] w fun e w' => e = .returned (.string r) ∧ Below w.heap.size w w' := by
  unfold text_Upper.f at h
  by_cases hs : a0.size ≤ 140737488355328
  · rw [if_pos hs] at h
    obtain rfl := Option.some.inj h
    clear h
    have hlen := numsB_length a0
    have hsz : (numsB a0).toArray.size = a0.size := by rw [List.size_toArray, hlen]
    have hcv := Lib.run_convert_string_bytes (P := Try.prog) w 9 43 5 a0 Try.underlying9 Try.underlying43 Try.underlying5
    have HB := Aside0.mk (below_bytes w 5 a0)
    have HH := Aside0.mk (holds_bytes w 5 a0)
    have HV := Aside0.mk (numsB_range a0)
    obtain ⟨d, hd⟩ : ∃ d, d = (numsB a0).toArray := ⟨_, rfl⟩
    rw [← hd] at hsz HH HV
    have HD := Aside0.mk hd
    have HZ := Aside0.mk hsz
    clear hd hlen hsz
    go_enter Try.func23, Try.ntmps23
    go_wp2
    go_loopg [10] a0.size (fun k s10 wr => ∃ (i n : Nat) (dk : Array Int), s10 = .int .i64 i ∧ i ≤ a0.size ∧ a0.size - i ≤ k ∧ Aside0 (Uppered d dk i) ∧ Aside0 (wr = putRow (Value.int .u8) (Sort.ahead (Lib.bytesWorld w 5 a0) n) w.heap.size 0 dk))
    case atStart => exact ⟨0, 0, d, rfl, Nat.zero_le _, by omega, ⟨Uppered.start d⟩, ⟨(putRow_self _ _ _ _ d HH.out).symm⟩⟩
    case round =>
      obtain ⟨i, n, dk, rfl, hi, hk, HU, A⟩ := hrel
      by_cases hlt : i < a0.size
      · have hHk : Holds (Value.int .u8) wr w.heap.size 0 dk := by rw [A.out]; exact holds_putRow _ _ _ _ d dk (holds_ahead _ _ n _ _ d HH.out) HU.out.1
        have hid : i < dk.size := by rw [HU.out.1, HZ.out]; exact hlt
        have hx0 := HU.out.2 i (by rw [HZ.out]; exact hlt)
        rw [if_neg (Nat.lt_irrefl i)] at hx0
        have hv := HV.out i hlt
        rw [← hx0] at hv
        obtain ⟨ci, fi⟩ := hHk i hid
        rw [Nat.zero_add] at ci fi
        obtain ⟨x, hx⟩ : ∃ x, x = dk[i]! := ⟨_, rfl⟩
        rw [← hx] at ci hv
        have HX := Aside0.mk hx
        clear hx hx0 hHk
        have HI := Aside0.mk hid
        clear hid
        by_cases c1 : 97 ≤ x
        · have q1 : decide (97 ≤ x) = true := decide_eq_true c1
          by_cases c2 : x ≤ 122
          · have q2 : decide (x ≤ 122) = true := decide_eq_true c2
            have e1 : (x - 97 + 65) % 256 = up1 x := by
              unfold up1
              rw [if_pos ⟨c1, c2⟩]
              omega
            have E1 := Aside0.mk e1
            clear e1 hv c1 c2
            go_wp2
            go_roundg (a0.size - (i + 1))
            case measure => omega
            case rel =>
              refine ⟨i + 1, n, dk.setIfInBounds i (up1 dk[i]!), by simp, by omega, Nat.le_refl _, ⟨HU.out.turn (by rw [HZ.out]; exact hlt)⟩, ⟨?_⟩⟩
              have hp := putRow_set (Value.int .u8) (Sort.ahead (Lib.bytesWorld w 5 a0) n) w.heap.size 0 dk i (up1 dk[i]!) HI.out
              rw [Nat.zero_add] at hp
              rw [E1.out, A.out, HX.out]
              exact hp
          · have q2 : decide (x ≤ 122) = false := decide_eq_false c2
            have e1 : up1 x = x := by unfold up1; rw [if_neg (by omega)]
            have E1 := Aside0.mk e1
            clear e1 hv c1 c2
            go_wp2
            go_roundg (a0.size - (i + 1))
            case measure => omega
            case rel =>
              refine ⟨i + 1, n, dk, by simp, by omega, Nat.le_refl _, ⟨HU.out.keep (by rw [HZ.out]; exact hlt) (by rw [← HX.out]; exact E1.out)⟩, A⟩
        · have q1 : decide (97 ≤ x) = false := decide_eq_false c1
          have e1 : up1 x = x := by unfold up1; rw [if_neg (by omega)]
          have E1 := Aside0.mk e1
          clear e1 hv c1
          go_wp2
          go_roundg (a0.size - (i + 1))
          case measure => omega
          case rel =>
            refine ⟨i + 1, n, dk, by simp, by omega, Nat.le_refl _, ⟨HU.out.keep (by rw [HZ.out]; exact hlt) (by rw [← HX.out]; exact E1.out)⟩, A⟩
      · obtain rfl : i = a0.size := by omega
        have hdk : dk = d.map up1 := HU.out.done (by rw [HZ.out]; exact Nat.le_refl _)
        have hB2 : Below w.heap.size w wr := by rw [A.out]; exact below_putRow HB.out (Nat.le_refl _)
        have hHk : Holds (Value.int .u8) wr w.heap.size 0 dk := by rw [A.out]; exact holds_putRow _ _ _ _ d dk (holds_ahead _ _ n _ _ d HH.out) HU.out.1
        have hC : Kd.C (Kd.int .u8) wr (some ⟨w.heap.size, 0, none⟩) a0.size ((numsB a0).map up1) := by
          have hlen := numsB_length a0
          refine Kd.C_of_reads (d := (0 : Int)) ⟨by rw [List.length_map, hlen], by omega, fun _ => ⟨_, rfl, fun j hj => ?_⟩⟩
          have hj2 : j < dk.size := by rw [HU.out.1, HZ.out]; exact hj
          have := (hHk j hj2).1
          rw [getElem!_pos _ j hj2] at this
          rw [show (⟨w.heap.size, 0, none⟩ : Addr).add j = ⟨w.heap.size, 0 + j, none⟩ from by unfold Addr.add; split <;> simp [*], this]
          congr 2
          subst hdk
          have hd := HD.out
          subst hd
          rw [List.getD_eq_getElem?_getD, List.getElem?_eq_getElem (by rw [List.length_map, hlen]; exact hj)]
          simp
        have hback := fun c => Kd.C_string (P := Try.prog) (c := c) Try.underlying43 Try.underlying5 Try.underlying9 hC
        have HB2 := Aside0.mk hB2
        clear hB2 hC hHk hdk HU
        go_wp2
        go_ret
        exact ⟨rfl, HB2.out⟩
  · rw [if_neg hs] at h
    exact absurd h (by simp)
end Go.Proofs.Ythjbdkgbibidkaa.Pr
