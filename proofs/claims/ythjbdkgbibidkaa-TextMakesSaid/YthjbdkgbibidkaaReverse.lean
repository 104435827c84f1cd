/- slices.Reverse of bytes, and text.Reverse: contracts of their calls. -/
import Derived.Test.YthjbdkgbibidkaaPr0
import Derived.Shelf.RegionOpenPlain
import Derived.Deep.LoopGhost
import Derived.Lib.Walk
import Derived.Sort.WalkB12
import Derived.Lib.ConvBytes
namespace Go.Proofs.Ythjbdkgbibidkaa.Pr
open Go.RowKit Go.Sort Go.Proofs.YthjbdkgbibidkaaW.PrintWords Go.Proofs.YthjbdkgbibidkaaW.PrintLast Go.Proofs.YthjbdkgbibidkaaW.PrintMore
set_option linter.unusedVariables false
set_option linter.unusedSimpArgs false
/-- The i outer ones at each end have changed places. -/
def Turned (d dk : Array Int) (i : Nat) : Prop := dk.size = d.size ∧ ∀ k, k < d.size → dk[k]! = if k < i ∨ d.size ≤ k + i then d[d.size - 1 - k]! else d[k]!
theorem Turned.start (d : Array Int) : Turned d d 0 := ⟨rfl, fun k hk => by rw [if_neg (by omega)]⟩
theorem getElem!_swp {d : Array Int} {i j k : Nat} (hi : i < d.size) (hj : j < d.size) (hk : k < d.size) : (swp d i j)[k]! = if k = j then d[i]! else if k = i then d[j]! else d[k]! := by
  have hk' : k < ((d.setIfInBounds i d[j]!).setIfInBounds j d[i]!).size := by simpa using hk
  have hk2 : k < (d.setIfInBounds i d[j]!).size := by simpa using hk
  show ((d.setIfInBounds i d[j]!).setIfInBounds j d[i]!)[k]! = _
  rw [getElem!_pos _ k hk', Array.getElem_setIfInBounds hk2, Array.getElem_setIfInBounds hk, getElem!_pos d k hk]
  by_cases c : j = k
  · rw [if_pos c, if_pos c.symm]
  · rw [if_neg c, if_neg (fun e : k = j => c e.symm)]
    by_cases e : i = k
    · rw [if_pos e, if_pos e.symm]
    · rw [if_neg e, if_neg (fun x : k = i => e x.symm)]
theorem Turned.next {d dk : Array Int} {i : Nat} (h : Turned d dk i) (hi : 2 * i + 1 < d.size) : Turned d (swp dk i (d.size - 1 - i)) (i + 1) := by
  refine ⟨by rw [size_swp]; exact h.1, fun k hk => ?_⟩
  rw [getElem!_swp (by rw [h.1]; omega) (by rw [h.1]; omega) (by rw [h.1]; exact hk)]
  by_cases c : k = d.size - 1 - i
  · subst c
    rw [if_pos rfl, if_pos (by omega), h.2 i (by omega), if_neg (by omega), show d.size - 1 - (d.size - 1 - i) = i by omega]
  · rw [if_neg c]
    by_cases e : k = i
    · subst e
      rw [if_pos rfl, if_pos (by omega), h.2 _ (by omega), if_neg (by omega)]
    · rw [if_neg e, h.2 k hk]
      by_cases f : k < i ∨ d.size ≤ k + i
      · rw [if_pos f, if_pos (by omega)]
      · rw [if_neg f, if_neg (by omega)]
theorem Turned.done {d dk : Array Int} {i : Nat} (h : Turned d dk i) (hi : d.size ≤ 2 * i + 1) : dk = d.reverse := by
  apply Array.ext
  · rw [h.1, Array.size_reverse]
  · intro k h1 h2
    have hk : k < d.size := by rw [← h.1]; exact h1
    have := h.2 k hk
    rw [getElem!_pos dk k h1] at this
    rw [this, Array.getElem_reverse]
    by_cases c : k < i ∨ d.size ≤ k + i
    · rw [if_pos c, getElem!_pos d _ (by omega)]
    · rw [if_neg c, getElem!_pos d k hk]
      congr 1
      omega
set_option maxHeartbeats 1600000 in
set_option maxRecDepth 1000000 in
theorem reverse_row (blk off cap : Nat) (d : Array Int) (w : World) (hH : Holds (Value.int .u8) w blk off d) (hsz : d.size ≤ 140737488355328) :
    Calls Try.prog 31 #[.slice (some ⟨blk, off, none⟩) d.size cap] w fun e w' => e = .returned (.tuple #[]) ∧ ∃ n, w' = putRow (Value.int .u8) (Sort.ahead w n) blk off d.reverse := by
  go_enter Try.func31, Try.ntmps31
  go_wp2
  go_loopg [2, 3] d.size (fun k s2 s3 wr => ∃ (i n : Nat) (dk : Array Int), s2 = .int .i64 i ∧ s3 = .int .i64 ((d.size : Int) - 1 - i) ∧ i ≤ d.size ∧ d.size - i ≤ k ∧ Turned d dk i ∧ Aside0 (wr = putRow (Value.int .u8) (Sort.ahead w n) blk off dk))
  case atStart => exact ⟨0, 0, d, rfl, by first | rfl | simp, Nat.zero_le _, by omega, Turned.start d, ⟨(putRow_self _ w blk off d hH).symm⟩⟩
  case round =>
    obtain ⟨i, n, dk, rfl, rfl, hi, hk, hT, A⟩ := hrel
    by_cases hlt : (i : Int) < (d.size : Int) - 1 - i
    · have hHk : Holds (Value.int .u8) wr blk off dk := by rw [A.out]; exact holds_putRow _ _ blk off d dk (holds_ahead _ w n blk off d hH) hT.1
      obtain ⟨ci, fi⟩ := hHk i (by rw [hT.1]; omega)
      obtain ⟨cj, fj⟩ := hHk (d.size - 1 - i) (by rw [hT.1]; omega)
      have hn : 2 * i + 1 < d.size := by omega
      have hT2 := hT.next hn
      obtain ⟨jn, hjn⟩ : ∃ jn, jn = d.size - 1 - i := ⟨_, rfl⟩
      have hjz : (d.size : Int) - 1 - (i : Int) = (jn : Int) := by omega
      rw [← hjn] at cj fj hT2
      rw [hjz] at hlt ⊢
      have hij : i < jn := by omega
      have hjs : jn < d.size := by omega
      have hds := hT.1
      have HT2 := Aside0.mk hT2
      have HJ := Aside0.mk hjn
      clear hjn
      have mixed : Try.prog.follows .mixedOrders = true := by kernel_rfl
      clear hHk hH hT hT2 hjz hn
      go_wp2_with fail
      go_region_o
      go_wp2
      go_roundg (d.size - (i + 1))
      case measure => have := HJ.out; omega
      case rel =>
        have hjn := HJ.out
        refine ⟨i + 1, n + 1, _, by simp, ?_, by omega, Nat.le_refl _, HT2.out, ⟨?_⟩⟩
        · congr 1; omega
        · exact swap_world (Value.int .u8) (by rw [hds]; omega) (by rw [hds]; exact hjs) A.out (by simp [getElem!_pos, show jn < dk.size by omega]) (by simp [getElem!_pos, show i < dk.size by omega])
    · have := hT.done (by omega)
      go_wp2
      go_end0
      refine ⟨rfl, n, ?_⟩
      rw [A.out, this]
/-- The bytes of a text, as numbers. -/
def numsB (s : ByteArray) : List Int := s.data.toList.map fun b => (b.toNat : Int)
theorem numsB_length (s : ByteArray) : (numsB s).length = s.size := by unfold numsB; rw [List.length_map]; exact Array.length_toList
theorem below_bytes (w : World) (e : TypeId) (s : ByteArray) : Below w.heap.size w (Lib.bytesWorld w e s) :=
  ⟨rfl, rfl, rfl, by rw [Lib.bytesWorld_size]; omega, fun k hk => Lib.bytesWorld_at_old w e s k hk⟩
theorem holds_bytes (w : World) (e : TypeId) (s : ByteArray) : Holds (Value.int .u8) (Lib.bytesWorld w e s) w.heap.size 0 (numsB s).toArray := by
  intro j hj
  have hjs : j < s.size := by rw [List.size_toArray, numsB_length] at hj; exact hj
  refine ⟨?_, ?_⟩
  · rw [Nat.zero_add, Lib.bytesWorld_cell w e s j hjs]
    have h1 : j < s.data.toList.length := by rw [Array.length_toList]; exact hjs
    have h2 : j < (numsB s).length := by rw [numsB_length]; exact hjs
    rw [getElem!_pos _ j hj, List.getD_eq_getElem?_getD, List.getElem?_eq_getElem h1]
    simp [numsB]
  · unfold World.frozen?
    simp only [Lib.bytesWorld_at_new]
    have : s.size ≤ (Lib.bytesCells w e s).size := by
      unfold Lib.bytesCells
      rw [Array.size_append, Array.size_map]
      exact Nat.le_add_right _ _
    simp
    omega
theorem below_putRow {w w' : World} {n blk off : Nat} {d : Array Int} (h : Below w.heap.size w w') (hb : w.heap.size ≤ blk) : Below w.heap.size w (putRow (Value.int .u8) (Sort.ahead w' n) blk off d) := by
  refine h.trans ⟨rfl, rfl, rfl, by rw [size_putRow]; exact Nat.le_refl _, fun k hk => ?_⟩
  unfold putRow mapBlock
  simp only [Array.getElem?_modify]
  rw [if_neg (by omega)]
  rfl
def text_Reverse.f (a0 : ByteArray) : Option ByteArray := if a0.size ≤ 140737488355328 then some (strOfNums (numsB a0).reverse) else none
set_option maxHeartbeats 1600000 in
set_option maxRecDepth 100000 in
theorem text_Reverse.calls (a0 : ByteArray) (r : ByteArray) (w : World) (h : text_Reverse.f a0 = some r) :
    Calls Try.prog 18 #[.string a0] w fun e w' => e = .returned (.string r) ∧ Below w.heap.size w w' := by
  unfold text_Reverse.f at h
  by_cases hs : a0.size ≤ 140737488355328
  · rw [if_pos hs] at h
    obtain rfl := Option.some.inj h
    clear h
    have hlen := numsB_length a0
    have hcv := Lib.run_convert_string_bytes (P := Try.prog) w 9 43 5 a0 Try.underlying9 Try.underlying43 Try.underlying5
    have HB := Aside0.mk (below_bytes w 5 a0)
    have HH := Aside0.mk (holds_bytes w 5 a0)
    have hR : ∀ cap, Calls Try.prog 31 #[.slice (some ⟨w.heap.size, 0, none⟩) a0.size cap] (Lib.bytesWorld w 5 a0) fun e w' => e = .returned (.tuple #[]) ∧ Below w.heap.size w w' ∧ Kd.C (Kd.int .u8) w' (some ⟨w.heap.size, 0, none⟩) a0.size (numsB a0).reverse := by
      intro cap
      have h := reverse_row w.heap.size 0 cap (numsB a0).toArray _ HH.out (by rw [List.size_toArray, hlen]; exact hs)
      have hsz : (numsB a0).toArray.size = a0.size := by rw [List.size_toArray, hlen]
      rw [hsz] at h
      refine h.mono fun e w' ⟨h1, n, h2⟩ => ⟨h1, by rw [h2]; exact below_putRow HB.out (Nat.le_refl _), ?_⟩
      have hh : Holds (Value.int .u8) w' w.heap.size 0 (numsB a0).toArray.reverse := by
        rw [h2]
        exact holds_putRow _ _ _ _ (numsB a0).toArray _ (holds_ahead _ _ n _ _ _ HH.out) (by rw [Array.size_reverse])
      refine Kd.C_of_reads (d := (0 : Int)) ⟨by rw [List.length_reverse, hlen], by omega, fun _ => ⟨_, rfl, fun j hj => ?_⟩⟩
      have hj2 : j < (numsB a0).toArray.reverse.size := by rw [Array.size_reverse, List.size_toArray, hlen]; exact hj
      have := (hh j hj2).1
      rw [getElem!_pos _ j hj2] at this
      rw [show (⟨w.heap.size, 0, none⟩ : Addr).add j = ⟨w.heap.size, 0 + j, none⟩ from by unfold Addr.add; split <;> simp [*], this]
      congr 2
      rw [List.getD_eq_getElem?_getD, List.getElem?_eq_getElem (by rw [List.length_reverse, hlen]; exact hj)]
      simp
    have HR := Aside0.mk hR
    clear hR
    go_enter Try.func18, Try.ntmps18
    go_wp2_with (go_at_call 31; refine (HR.out _).mono ?_; rintro e w2 ⟨rfl, hb, hC⟩; have hback := fun c => Kd.C_string (P := Try.prog) (c := c) Try.underlying43 Try.underlying5 Try.underlying9 hC; have HB2 := Aside0.mk hb; clear hb hC)
    go_ret
    exact ⟨rfl, HB2.out⟩
  · rw [if_neg hs] at h
    exact absurd h (by simp)
end Go.Proofs.Ythjbdkgbibidkaa.Pr
