/- Which functions can be: the check as plain data. -/
import Derived.Test.YtlhnkfheojlghaaDoorOf
import Derived.Test.YtlhnkfheojlghaaDoorFloN
import Derived.Test.YtlhnkfheojlghaaDoorPr2
namespace Go.Proofs.YtlhnkfheojlghaaDoor.Pr
open Go.RowKit Go.Proofs.YtlhnkfheojlghaaDoorW.PrintWords Go.Proofs.YtlhnkfheojlghaaDoorW.PrintLast Go.Proofs.YtlhnkfheojlghaaDoorW.PrintMore
set_option linter.unusedVariables false
set_option linter.unusedSimpArgs false
def canonM (a : Int) : Int := if Flo.nanB a.toNat = true then 9221120237041090560 else a
/-- A value without what plays no part. -/
def normM (v : S98) : S98 :=
  if v.f0 = 1 ∨ v.f0 = 2 then ⟨v.f0, 0, ⟨#[]⟩, 0⟩ else if v.f0 = 3 then ⟨v.f0, canonM v.f1, ⟨#[]⟩, 0⟩ else if v.f0 = 4 then ⟨v.f0, 0, v.f2, 0⟩
  else if 5 ≤ v.f0 ∧ v.f0 ≤ 8 then ⟨v.f0, 0, ⟨#[]⟩, v.f3⟩ else ⟨0, 0, ⟨#[]⟩, 0⟩
def wordV (v : S98) : Prop := 0 ≤ v.f1 ∧ v.f1 < 18446744073709551616
theorem normal_f (v : S98) (h : wordV v) : value_Normal.f 1 v.f0 v.f1 v.f2 v.f3 = some ((normM v).f0, (normM v).f1, (normM v).f2, (normM v).f3) := by
  unfold value_Normal.f value_normal.f normM
  have hc : flo_Canon.f v.f1 = some (canonM v.f1) := by
    unfold flo_Canon.f flo_canon.f canonM
    rw [if_pos (show 0 ≤ v.f1 ∧ v.f1 < 18446744073709551616 from h)]
    rfl
  by_cases h1 : v.f0 = 1
  · simp [value_normal.j0, h1]
  by_cases h2 : v.f0 = 2
  · simp [value_normal.j0, h2]
  rw [if_neg h1, if_neg (by omega)]
  by_cases h3 : v.f0 = 3
  · simp [value_normal.j0, h3, hc]
  rw [if_neg h3]
  by_cases h4 : v.f0 = 4
  · simp [value_normal.j0, h4]
  rw [if_neg h4]
  by_cases h5 : v.f0 = 5
  · simp [value_normal.j0, h5]
  by_cases h6 : v.f0 = 6
  · simp [value_normal.j0, h6]
  by_cases h7 : v.f0 = 7
  · simp [value_normal.j0, h7]
  by_cases h8 : v.f0 = 8
  · simp [value_normal.j0, h8]
  rw [if_neg (by omega)]
  simp [value_normal.j0, h2, h3, h4, h5, h6, h7, h8]
def sameV (a b : S98) : Bool := (a.f0 == b.f0) && ((a.f1 == b.f1) && ((a.f2.toList == b.f2.toList) && (a.f3 == b.f3)))
/-- A constant that can't be. -/
def badC (v : S98) : Bool := decide (4 < v.f0) || !sameV (normM v) v
/-- An up that isn't there. -/
def badU (regs ups : Int) (u : S94) : Bool := decide (u.f1 < 0) || ((u.f0 && decide (regs ≤ u.f1)) || (!u.f0 && decide (ups ≤ u.f1)))
def upsM (l : List S94) (ab : Option (Int × Int)) : Bool := match ab with
  | none => decide (l.length = 0)
  | some (r, u) => !l.any (badU r u)
def endsM (l : List S36) : Bool := match l.getLast? with
  | none => false
  | some i => decide (i.f0 = 29) || (decide (i.f0 = 33) || decide (i.f0 = 34))
def isM (op : Int) : Bool := decide (0 ≤ op) && decide (op < 38)
def usesM (op : Int) : ByteArray := (ordersL.getD op.toNat z63).f1
/-- A k-th operand. -/
def operM (i : S36) (k : Nat) : Int := if k = 0 then i.f1 else if k = 1 then i.f2 else i.f3
/-- What an operand of a letter must be below. -/
def mostM (p : S27) (i : S36) (c : Int) : Int :=
  if c = 82 then p.f1 else if c = 75 then (p.f4.length : Int) else if c = 85 then (p.f2.length : Int) else if c = 80 then (p.f5.length : Int) else if c = 79 then (p.f3.length : Int)
  else if c = 78 then min 31 (wrap64 (p.f1 - i.f1)) else 0
def operOk (p : S27) (i : S36) (u : ByteArray) (k : Nat) : Bool := decide (0 ≤ operM i k) && decide (operM i k < mostM p i (bt u (k : Int)))
def canM (p : S27) (i : S36) : Bool := isM i.f0 && ((List.range (usesM i.f0).size).all (operOk p i (usesM i.f0)) && ((i.f0 != 36 && i.f0 != 37) || decide (i.f1 < wrap64 (p.f1 - 2))))
def longM (p : S27) (deep n : Int) : Bool := decide (131072 < (p.f3.length : Int)) || (decide (131072 < (p.f4.length : Int)) || (decide (4096 < p.f1) || (decide (60 < (p.f2.length : Int)) || (decide (100 < deep) || decide (4096 < n)))))
def selfBad (p : S27) (ab : Option (Int × Int)) : Bool := decide (p.f0 < 0) || (decide (30 < p.f0) || (decide (p.f1 < p.f0) || (p.f4.any badC || (!endsM p.f3 || !upsM p.f2 ab))))
mutual
/-- A function, and those within: how many there were, and what is wrong. -/
def chk : S27 → Option (Int × Int) → Int → Int → Int × Int
  | ⟨f0, f1, f2, f3, f4, f5⟩, ab, deep, many =>
    if longM ⟨f0, f1, f2, f3, f4, f5⟩ deep (many + 1) = true then (many + 1, 2)
    else if selfBad ⟨f0, f1, f2, f3, f4, f5⟩ ab = true then (many + 1, 1)
    else if f3.all (canM ⟨f0, f1, f2, f3, f4, f5⟩) = true then chkL f5 (f1, (f2.length : Int)) (deep + 1) (many + 1)
    else (many + 1, 1)
def chkL : List S27 → Int × Int → Int → Int → Int × Int
  | [], _, _, many => (many, 0)
  | p :: l, ab, deep, many => if (chk p (some ab) deep many).2 = 0 then chkL l ab deep (chk p (some ab) deep many).1 else chk p (some ab) deep many
end
mutual
/-- All words are words. -/
def wordsM : S27 → Bool
  | ⟨_, _, _, _, f4, f5⟩ => f4.all (fun v => decide (0 ≤ v.f1) && decide (v.f1 < 18446744073709551616)) && wordsL f5
def wordsL : List S27 → Bool
  | [] => true
  | p :: l => wordsM p && wordsL l
end
theorem chk_eq (p : S27) (ab : Option (Int × Int)) (deep many : Int) : chk p ab deep many = if longM p deep (many + 1) = true then (many + 1, 2)
    else if selfBad p ab = true then (many + 1, 1)
    else if p.f3.all (canM p) = true then chkL p.f5 (p.f1, (p.f2.length : Int)) (deep + 1) (many + 1)
    else (many + 1, 1) := by cases p; rw [chk]
theorem wordsM_eq (p : S27) : wordsM p = (p.f4.all (fun v => decide (0 ≤ v.f1) && decide (v.f1 < 18446744073709551616)) && wordsL p.f5) := by cases p; rw [wordsM]
end Go.Proofs.YtlhnkfheojlghaaDoor.Pr
