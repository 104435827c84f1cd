/- The writer of package code: what a cell becomes; append of a text. -/
import Derived.Test.YtjcaieecafggiaaWrPut
namespace Go.Proofs.Ytjcaieecafggiaa.Pr
open Go.RowKit Go.Proofs.YtjcaieecafggiaaW.PrintWords Go.Proofs.YtjcaieecafggiaaW.PrintLast Go.Proofs.YtjcaieecafggiaaW.PrintMore
set_option linter.unusedVariables false
set_option linter.unusedSimpArgs false
/-- What a call of the writer ends with. -/
def lookC (n : Nat) : Int := if 1048576 < n then 2 else 0
def endOf (c : Int) : Ending := if c = 0 then .returned (.tuple #[]) else wrongE c
theorem lookE_eq (n : Nat) : lookE n = endOf (lookC n) := by
  unfold lookE endOf lookC
  split
  · rw [if_neg (by omega)]
  · rw [if_pos rfl]
theorem endOf_zero : endOf 0 = .returned (.tuple #[]) := rfl
theorem endOf_not {c : Int} (h : c ≠ 0) : endOf c = wrongE c := by unfold endOf; rw [if_neg h]
theorem lookC_zero {n : Nat} (h : lookC n = 0) : n ≤ 1048576 := by
  unfold lookC at h
  split at h <;> omega
/-- One behind the other, till one of them ends otherwise than with 0. -/
def foldW {α : Type} (f : α → List Int → Option (List Int × Int)) : List α → List Int → Option (List Int × Int)
  | [], ys => some (ys, 0)
  | x :: rest, ys => (f x ys).bind fun r => if r.2 = 0 then foldW f rest r.1 else some r
/-- What a cell's bytes behind others come to. -/
def wrCell : Nat → S26 → Nat → List Int → Option (List Int × Int)
  | 0, _, _, _ => none
  | k + 1, c, deep, xs =>
    if c.f0 = 0 then some (xs ++ (0 :: beB c.f1 8), lookC (xs.length + 9))
    else if c.f0 = 1 then
      if 1048576 < c.f2.size then some (xs, 2)
      else if lookC (xs.length + 5) = 0 then some (xs ++ (1 :: beB c.f2.size 4) ++ bytesOf c.f2, lookC (xs.length + 5 + c.f2.size))
      else some (xs ++ (1 :: beB c.f2.size 4), 2)
    else if c.f0 = 2 then
      if 64 < deep + 1 then some (xs, 2)
      else if 1048576 < c.f3.length then some (xs, 2)
      else if lookC (xs.length + 5) = 0 then foldW (fun x ys => wrCell k x (deep + 1) ys) c.f3 (xs ++ (2 :: beB c.f3.length 4))
      else some (xs ++ (2 :: beB c.f3.length 4), 2)
    else some (xs, 1)
section
variable {P : Program} (w : World)
/-- append of a text's bytes, and where the row lies then. -/
theorem append_str_at (base : Nat) (t u ty e : TypeId) (i : TypeInfo) (ht : P.underlying t = some (.slice e)) (hu : P.underlying u = some .string) (hi : P.info? e = some i) (hz : i.zero = some (.int .u8 0))
    (hsize : i.size = 1) (hby : i.bytes = 1) (v : Value) (n : Nat) (xs : List Value) (hown : w.ownsRow base e 1 v n xs) (s : ByteArray)
    (hbytes : n + s.size ≤ 140737488355328) (hbase : base ≤ w.heap.size) :
    ∃ A c w', (Builtin.append_ #[t, u] ty #[v, .string s]).run P w = .ok (.slice A (n + s.size) c) w' ∧ w'.ownsRow base e 1 (.slice A (n + s.size) c) (n + s.size) (xs ++ Lib.strCells s) ∧ w.grownBy w' v.ownBlock ∧
      ((Value.slice A (n + s.size) c).ownBlock = v.ownBlock ∨ (Value.slice A (n + s.size) c).ownBlock = some w.heap.size) := by
  have h63 : n + s.size ≤ maxLen := by simp only [maxLen]; omega
  obtain ⟨v', w', hr, h2, h3, h4⟩ := Lib.run_append_own_string (P := P) w base t u ty e i ht hu hi hz hsize hby v n xs hown s h63 hbytes hbase
  have hat : v'.ownBlock = v.ownBlock ∨ v'.ownBlock = some w.heap.size := by
    have hxl : xs.length = n := by simpa using hown.1
    rcases hown.2 with ⟨rfl, rfl⟩ | ⟨g, cap, cur, rfl, hbg, hg, hnc, hcm, hcs, htake⟩
    · by_cases hm : s.size = 0
      · rw [h4.2 ⟨rfl, hm⟩]; exact .inl rfl
      · have h5 := run_append_nil_string (P := P) w t u ty e i (.int .u8 0) ht hu hi hz s (by omega) (by omega) (by rw [hby]; omega)
        rw [h5] at hr
        injection hr with hr _
        rw [← hr]; exact .inr rfl
    · by_cases hroom : n + s.size ≤ cap
      · have hfit : n + s.size ≤ cur.size := by simp only [Nat.mul_one] at hcs; omega
        have h5 := Lib.run_append_room_string (P := P) w t u ty e i ht hu hi hsize g n cap cur hg s hroom hfit
        rw [h5] at hr
        injection hr with hr _
        rw [← hr]; exact .inl rfl
      · have h5 := Lib.run_append_grow_string (P := P) w t u ty e i (.int .u8 0) ht hu hi hz ⟨g, 0, none⟩ n cap xs (by rw [hsize]; simpa using hxl) (hown.cells (g := g) rfl) s (by omega) (by omega) (by rw [hby]; exact growslice_fits (by omega) (by omega))
        rw [h5] at hr
        injection hr with hr _
        rw [← hr]; exact .inr rfl
  obtain ⟨A, c, rfl⟩ := own_slice h2
  exact ⟨A, c, w', hr, h2, h3, hat⟩
theorem step_append_str {ops : Array Oper} {o : Oper} {a : Act} {K : Act → World → Prop} {Q : Exit → Act → World → Prop} {E : Prop} (hgd : o.guard = none) (sl x : Operand) (t u : TypeId)
    (ho : o.op = .call { callee := .builtin .append, args := #[sl, x], argTypes := #[t, u] })
    (base : Nat) (e : TypeId) (i : TypeInfo) (ht : P.underlying t = some (.slice e)) (hu : P.underlying u = some .string) (hi : P.info? e = some i) (hz : i.zero = some (.int .u8 0))
    (hsize : i.size = 1) (hby : i.bytes = 1) (v : Value) (n : Nat) (xs : List Value) (hs : a.eval sl = v) (hown : w.ownsRow base e 1 v n xs) (s : ByteArray) (hx : a.eval x = .string s)
    (hbytes : n + s.size ≤ 140737488355328) (hbase : base ≤ w.heap.size)
    (h : ∀ A c w', w'.ownsRow base e 1 (.slice A (n + s.size) c) (n + s.size) (xs ++ Lib.strCells s) → w.grownBy w' v.ownBlock → ((Value.slice A (n + s.size) c).ownBlock = v.ownBlock ∨ (Value.slice A (n + s.size) c).ownBlock = some w.heap.size) → K (a.put o.dst (.slice A (n + s.size) c)) w') :
    if Region.wanted o (yielded ops a.tmps) = true then Oper.wp P o a w K Q else E := by
  have hw : Region.wanted o (yielded ops a.tmps) = true := by simp [Region.wanted, hgd]
  rw [if_pos hw]
  obtain ⟨A, c, w', hr, h2, h3, h4⟩ := append_str_at (P := P) w base t u o.type e i ht hu hi hz hsize hby v n xs hown s hbytes hbase
  unfold Oper.wp execOp
  simp only [ho, resolve, invoke, builtin, Sem.run_bind, Sem.run_pure, Result.andThen_ok, List.map_toArray, List.map_cons, List.map_nil, hs, hx, hr]
  exact h A c w' h2 h3 h4
end
end Go.Proofs.Ytjcaieecafggiaa.Pr
