/- The disk as lists and numbers: what each call makes of it. -/
import GoSem.ClaimWide
namespace Go.Proofs.Ytlbeehefandfhaa.Pr
set_option linter.unusedVariables false
set_option linter.unusedSimpArgs false
/-! The disk as numbers and lists. -/
structure PF where
  name : List UInt8
  bs : List Int
  fast : Nat
structure PD where
  F : List PF
  size : Int
  calls : Int
  out : Bool
def nameOk (n : List UInt8) : Bool := n.all (fun c => (decide (97 ≤ c) && decide (c ≤ 122)) || (decide (48 ≤ c) && decide (c ≤ 57)) || c == 45) && (!n.isEmpty && decide (n.length ≤ 32))
def PD.goes (s : PD) : PD := { s with calls := if s.calls ≤ 0 then s.calls else s.calls - 1, out := s.out || decide (s.calls = 0) }
def total : List PF → Int
  | [] => 0
  | f :: r => (f.bs.length : Int) + total r
def insP (f : PF) : List PF → List PF
  | [] => [f]
  | g :: r => if bytesBefore f.name g.name then f :: g :: r else g :: insP f r
def delP (n : List UInt8) (L : List PF) : List PF := L.filter fun f => !(f.name == n)
def getP (n : List UInt8) (L : List PF) : Option PF := L.find? fun f => f.name == n
def updP (n : List UInt8) (g : PF → PF) : List PF → List PF
  | [] => []
  | f :: r => if f.name == n then g f :: r else f :: updP n g r
def pAppend (s : PD) (n : List UInt8) (l : List Int) : PD × Int :=
  if s.out then (s.goes, 200)
  else if !nameOk n then (s.goes, if s.goes.out then 200 else 1)
  else if (l.length : Int) > s.size - total s.F then (s.goes, 200)
  else ({ s.goes with F := match getP n s.F with | some _ => updP n (fun f => { f with bs := f.bs ++ l }) s.F | none => insP ⟨n, l, 0⟩ s.F }, if s.goes.out then 200 else 0)
def pSync (s : PD) (n : List UInt8) : PD × Int :=
  if s.goes.out then (s.goes, 200) else match getP n s.F with
    | none => (s.goes, 5)
    | some _ => ({ s.goes with F := updP n (fun f => { f with fast := f.bs.length }) s.F }, 0)
def pTruncate (s : PD) (n : List UInt8) (k : Int) : PD × Int :=
  if s.goes.out then (s.goes, 200) else match getP n s.F with
    | none => (s.goes, 5)
    | some f => if k < 0 ∨ k > f.bs.length then (s.goes, 1) else ({ s.goes with F := updP n (fun f => { f with bs := f.bs.take k.toNat, fast := min f.fast k.toNat }) s.F }, 0)
def pRename (s : PD) (a b : List UInt8) : PD × Int :=
  if s.goes.out then (s.goes, 200) else if !nameOk b then (s.goes, 1) else match getP a s.F with
    | none => (s.goes, 5)
    | some f => if a = b then (s.goes, 0) else ({ s.goes with F := insP { f with name := b } (delP a (delP b s.F)) }, 0)
def pRemove (s : PD) (n : List UInt8) : PD × Int :=
  if s.goes.out then (s.goes, 200) else match getP n s.F with
    | none => (s.goes, 5)
    | some _ => ({ s.goes with F := delP n s.F }, 0)
def pRead (s : PD) (n : List UInt8) : List Int × Bool := match getP n s.F with | some f => (f.bs, true) | none => ([], false)
def pFast (s : PD) (n : List UInt8) : Int := match getP n s.F with | some f => f.fast | none => 0
def pCut (s : PD) (n : Int) : PD := { s with calls := max n (-1) }
/-- What a torn file has left ahead of the tail. -/
def keptN (keep : Int) (f : PF) : Nat := f.fast + (min (max keep 0) ((f.bs.length : Int) - f.fast)).toNat
def tear (keep : Int) (f : PF) : PF := if f.bs.length = f.fast then f else { f with bs := f.bs.take (keptN keep f) }
def isTorn (f : PF) : Bool := !decide (f.bs.length = f.fast)
/-- How much of the tail a torn file gets. -/
def tailN (size : Int) (tail : List Int) (u : Int) : Nat := (min (tail.length : Int) (size - u)).toNat
def fillOne (size : Int) (tail : List Int) (keep : Int) (f : PF) (u : Int) : PF :=
  { tear keep f with bs := (tear keep f).bs ++ tail.take (tailN size tail u), fast := (tear keep f).bs.length + tailN size tail u }
def fillL (size : Int) (tail : List Int) (keep : Int) : List PF → Int → List PF
  | [], _ => []
  | f :: r, u => if isTorn f then fillOne size tail keep f u :: fillL size tail keep r (u + tailN size tail u) else f :: fillL size tail keep r u
def fillU (size : Int) (tail : List Int) : List PF → Int → Int
  | [], u => u
  | f :: r, u => if isTorn f then fillU size tail r (u + tailN size tail u) else fillU size tail r u
def pCrash (s : PD) (keep : Int) (tail : List Int) : PD :=
  { s with F := fillL s.size tail keep s.F (total (s.F.map (tear keep))), calls := -1, out := false }
structure WF (s : PD) : Prop where
  size0 : 0 ≤ s.size
  size1 : s.size ≤ 67108864
  room : total s.F ≤ s.size
  fast : ∀ f ∈ s.F, f.fast ≤ f.bs.length
  calls0 : -1 ≤ s.calls
  calls1 : s.calls ≤ 9223372036854775807
  names : ∀ f ∈ s.F, nameOk f.name = true
  sorted : s.F.Pairwise fun f g => bytesBefore f.name g.name = true
theorem total_nonneg : ∀ L, 0 ≤ total L
  | [] => Int.le_refl 0
  | f :: r => by have := total_nonneg r; unfold total; omega
theorem total_append : ∀ L M, total (L ++ M) = total L + total M
  | [], M => by simp [total]
  | f :: r, M => by simp only [List.cons_append, total, total_append r M]; omega
end Go.Proofs.Ytlbeehefandfhaa.Pr
