/- Lemmas, and contracts of calls, for the law ValueForms. -/
import Derived.Test.YtongfmeediokmaaGreatDoorProg
import Derived.Below
import Derived.Deep.Draws
import Derived.Deep.AppendLies
import Derived.Maps.AppendAt
import Derived.OwnWalk
import Derived.Laws.BytesArg
import Derived.Laws.MakeOwn
import Derived.Laws.OwnMore
import Derived.Deep.OwnRows
import Derived.Tactics
import Derived.Lib.ConvBytes
import Derived.Laws.Slices
import Derived.WalkKit
import Derived.KernelRfl
import Derived.RowKit3
import Derived.Deep.LoopGhost
import Derived.Deep.QuietTactic
import Derived.BigQuiet
import Derived.WideLaws
import Derived.Deep.DeepCutAuto
import Derived.Deep.CutBlock
import Derived.Deep.RegionHeld3
import Derived.Laws.Rows
import Derived.Lib.AppendStr
import Derived.ArgAppend
import Derived.Laws.IdiomCopy
import Derived.OrdersHeld
import Derived.Laws.BitsLemmas
import Derived.RowKit
import Derived.Test.YtongfmeediokmaaGreatDoorZVF0
import Derived.Test.YtongfmeediokmaaGreatDoorZVF6
import Derived.Test.YtongfmeediokmaaGreatDoorZVF5
import Derived.Test.YtongfmeediokmaaGreatDoorZVF3
import Derived.Lib.LaidTab
import Derived.OpenShut
import Derived.ChangeArms
set_option linter.unusedVariables false
set_option linter.unusedSimpArgs false
section
namespace Go.Proofs.YtongfmeediokmaaGreatDoor.Pure
open Go.RowKit YtongfmeediokmaaGreatDoor.Pr YtongfmeediokmaaGreatDoorW.PrintWords YtongfmeediokmaaGreatDoorW.PrintLast YtongfmeediokmaaGreatDoorW.PrintMore YtongfmeediokmaaGreatDoor.Flo
def topN (x : Nat) (e : Int) (m : Nat) : Nat := x * 10 ^ ((m : Int) - e).toNat
def botN (y : Nat) (e : Int) (m : Nat) : Nat := y * 10 ^ (e - m).toNat
theorem zBM {lx ly : List Int} {x y B : Nat} (q : Quo lx ly x y B) (e : Int) (m : Nat) (he : -1000 ≤ e) (he2 : e ≤ 1000) (hm : m ≤ 100) :
  ∃ ld : List Int,Digs ld ∧ ld.length ≤ 1000 ∧ valD ld = botN y e m ∧ Ev (fun k => r5_digitsOf.f k lx ly e ((m : Int) + 1)) (toD (topN x e m / botN y e m),toD (topN x e m % botN y e m),ld) := by
 obtain ⟨dx,dy,ex,ey,lx',ly',bx,byy,px,py,hB⟩ := q;(have hw : wrap64 (wrap64 ((m : Int) + 1 - 1) - e) = (m : Int) - e := by rw [wrapB ((m : Int) + 1 - 1) zO zO,wrapB _ zO zO];omega);unfold topN botN;by_cases h : (m : Int) - e ≥ 0
 ·obtain ⟨K1,h1⟩ := zKP ((m : Int) - e).toNat zO;have l10 := zXn (zYI ((m : Int) - e).toNat);obtain ⟨K2,h2⟩ := zYm lx (toD (10 ^ ((m : Int) - e).toNat)) dx (zQJ _) zO zO;rw [zQN,ex] at h2;have hb := zXn (zYM (n := ((m : Int) - e).toNat) (M := 9000) bx zO);obtain ⟨K3,h3⟩ := zWq (toD (x * 10 ^ ((m : Int) - e).toNat)) ly (zQJ _) dy zO zO zO;rw [zQN,ey] at h3;rw [show (e - (m : Int)).toNat = 0 by omega,Nat.pow_zero,Nat.mul_one];refine ⟨ly,dy,ly',ey,K1 + K2 + K3,fun k hk => ?_⟩;dsimp only at h1 h2 h3 ⊢;have p1 := h1 k zO;rw [show ((((m : Int) - e).toNat : Nat) : Int) = (m : Int) - e by omega] at p1;rw [r5_digitsOf.f,hw,if_pos h,p1,Option.bind_some,h2 k zO,Option.bind_some,h3 k zO,Option.bind_some]
 ·obtain ⟨K1,h1⟩ := zKP (e - (m : Int)).toNat zO;have l10 := zXn (zYI (e - (m : Int)).toNat);obtain ⟨K2,h2⟩ := zYm ly (toD (10 ^ (e - (m : Int)).toNat)) dy (zQJ _) zO zO;rw [zQN,ey] at h2;have hb := zXn (zYM (n := (e - (m : Int)).toNat) (M := 9000) byy zO);have hne : y * 10 ^ (e - (m : Int)).toNat ≠ 0 := Nat.ne_of_gt (Nat.mul_pos py (zQE _));obtain ⟨K3,h3⟩ := zWq lx (toD (y * 10 ^ (e - (m : Int)).toNat)) dx (zQJ _) (by rw [zQN];exact hne) zO zO;rw [zQN,ex] at h3;rw [show ((m : Int) - e).toNat = 0 by omega,Nat.pow_zero,Nat.mul_one];refine ⟨toD (y * 10 ^ (e - (m : Int)).toNat),zQJ _,by omega,zQN _,K1 + K2 + K3,fun k hk => ?_⟩;dsimp only at h1 h2 h3 ⊢;have p1 := h1 k zO;rw [show (((e - (m : Int)).toNat : Nat) : Int) = -((m : Int) - e) by omega] at p1;rw [r5_digitsOf.f,hw,if_neg h,wrapB (-((m : Int) - e)) zO zO,p1,Option.bind_some,h2 k zO,Option.bind_some,h3 k zO,Option.bind_some]
theorem zGR : Digs [(10 : Int)] := zXX zO
theorem zWX : ∀ (m d : Nat) (t : ByteArray),d < 10 ^ m → m + t.size ≤ 1000 → Ev (fun k => r5_numeral.l0 k (toD d) t) (strOfNums (ds d) ++ t)
 | 0,d,t,hd,hm => by
  rw [Nat.pow_zero] at hd;(obtain rfl : d = 0 := by omega);refine Ev.step (f := fun _ => some t) (fun k => ?_) (Ev.congr (fun k => ?_) (Ev.now _))
  ·rw [r5_numeral.l0,zXf,if_neg (by decide)]
  ·rw [zYj];exact congrArg some (zZd (by rw [bytes_append];rfl))
 | m + 1,d,t,hd,hm => by
  by_cases h0 : d = 0
  ·subst h0;refine Ev.step (f := fun _ => some t) (fun k => ?_) (Ev.congr (fun k => ?_) (Ev.now _))
   ·rw [r5_numeral.l0,zXf,if_neg (by decide)]
   ·rw [zYj];exact congrArg some (zZd (by rw [bytes_append];rfl))
  ·have hlen : (toD d).length ≤ (4 * (m + 1) + 1) / 16 + 1 := zXn (Nat.lt_trans hd (zYI (m + 1)));rw [Nat.pow_succ] at hd;obtain ⟨K1,h1⟩ := zWq (toD d) [10] (zQJ _) zGR (by decide) zO (by decide);rw [zQN,show valD [10] = 10 from rfl] at h1;have hs : r1_Small.f (toD (d % 10)) = some ((d % 10 : Nat) : Int) := zWP (d % 10) zO;(have hdg : (48 + (((d % 10 : Nat) : Int) % 256)) % 256 = dg d := by unfold dg;omega);obtain ⟨K2,h2⟩ := zWX m (d / 10) (strOfNums [dg d] ++ t) zO (by rw [zQI,zYz];omega);refine ⟨K1 + K2 + 1,fun k hk => ?_⟩;dsimp only at h1 h2 ⊢;obtain ⟨k',rfl⟩ : ∃ k',k = k' + 1 := ⟨k - 1,by omega⟩;(have hpos : ((toD d).length : Int) > 0 := by rw [zYa h0,List.length_cons];omega);rw [r5_numeral.l0,if_pos hpos,h1 k' zO,Option.bind_some];dsimp only;rw [hs,Option.bind_some,hdg,Option.bind_some,if_pos (by rw [zYz];omega),h2 k' zO,zYg h0,zZx];exact congrArg some (zZd (by rw [bytes_append,bytes_append,bytes_append,bytes_append,List.append_assoc]))
theorem zWn (m d : Nat) (hd : d < 10 ^ m) (hm : m ≤ 900) : Ev (fun k => r5_numeral.f k (toD d)) (strOfNums (ds d)) := by
 have h := zWX m d (⟨#[]⟩ : ByteArray) hd (by show m + 0 ≤ 1000;omega);rw [show strOfNums (ds d) ++ (⟨#[]⟩ : ByteArray) = strOfNums (ds d) from zZd (by rw [bytes_append];exact List.append_nil _)] at h;exact h
theorem zWv (a b : ByteArray) : (a ++ b).extract 0 a.size = a := by
 refine zZd ?_
 rw [zWB,bytes_append,List.drop_zero,← zXC a,List.take_append_of_le_length zO,List.take_of_length_le zO]
theorem zWT : ∀ (n y : Nat) (t : ByteArray),y ≤ n → y ≠ 0 → (ds y).length + t.size ≤ 1000 → Ev (fun k => r5_trim.l0 k (strOfNums (ds y) ++ t) (((ds y).length : Nat) : Int)) (strOfNums (ds (strip y)))
 | 0,y,t,h,h0,_ => absurd zO h0
 | n + 1,y,t,h,h0,hl => by
  have hpl := zZE h0;have hlast := zHZ h0 t;have hsz : (strOfNums (ds y) ++ t).size = (ds y).length + t.size := by rw [zQI,zYl]
  have hex : (strOfNums (ds y) ++ t).extract 0 (ds y).length = strOfNums (ds y) := by
   have := zWv (strOfNums (ds y)) t;rw [zYl] at this;exact this
  by_cases h1 : y % 10 = 0
  ·(have h10 : y / 10 ≠ 0 := by omega);have hpl2 := zZE h10;have hlen : (ds y).length = (ds (y / 10)).length + 1 := by rw [zYg h0,List.length_append];rfl
   have e0 : strOfNums (ds y) ++ t = strOfNums (ds (y / 10)) ++ (strOfNums [dg y] ++ t) := by
    rw [zYg h0,zZx];exact zZd (by rw [bytes_append,bytes_append,bytes_append,bytes_append,List.append_assoc])
   (have hdg : dg y = 48 := by unfold dg;omega);have hi := zWT n (y / 10) (strOfNums [dg y] ++ t) zO h10 (by rw [zQI,zYz];omega);rw [← e0,← zYU h0 h1] at hi;refine Ev.step (fun k => ?_) hi;rw [r5_trim.l0,wrapB _ zO zO,if_pos zO,if_pos zO,if_pos zO,show (((ds y).length : Nat) : Int) - 1 = (((ds y).length - 1 : Nat) : Int) by omega,hlast,if_pos hdg];rw [show (ds y).length - 1 = (ds (y / 10)).length by omega]
  ·(have hdg : dg y ≠ 48 := by unfold dg;omega);rw [zKb h1];refine Ev.step (f := fun _ => some (strOfNums (ds y))) (fun k => ?_) (Ev.now _);rw [r5_trim.l0];by_cases hgt : (((ds y).length : Nat) : Int) > 1
   ·rw [if_pos hgt,wrapB _ zO zO,if_pos zO,if_pos zO,show (((ds y).length : Nat) : Int) - 1 = (((ds y).length - 1 : Nat) : Int) by omega,hlast,if_neg hdg,if_pos zO,if_pos zO,Int.toNat_natCast,hex]
   ·rw [if_neg hgt,if_pos zO,if_pos zO,Int.toNat_natCast,hex]
theorem zWU (m y : Nat) (h0 : y ≠ 0) (hm : y < 10 ^ m) (hm2 : m ≤ 900) : Ev (fun k => r5_trim.f k (strOfNums (ds y))) (strOfNums (ds (strip y))) := by
 have hl := zVO m y hm;have h := zWT y y (⟨#[]⟩ : ByteArray) (Nat.le_refl _) h0 (by show (ds y).length + 0 ≤ 1000;omega);rw [show strOfNums (ds y) ++ (⟨#[]⟩ : ByteArray) = strOfNums (ds y) from zZd (by rw [bytes_append];exact List.append_nil _)] at h;refine Ev.congr (fun k => ?_) h;rw [r5_trim.f,zYl]
theorem zVR {A s b Y : Nat} (hs : 0 < s) (hY : 0 < Y) (h : A * s = b * Y) : A / Y = b / s ∧ (A % Y) * s = (b % s) * Y := by
 have h1 := Nat.div_add_mod A Y;have h2 := Nat.mod_lt A hY;obtain ⟨Q,hQ⟩ : ∃ Q,Q = A / Y := ⟨_,rfl⟩;obtain ⟨ρ,hρ⟩ : ∃ ρ,ρ = A % Y := ⟨_,rfl⟩;rw [← hQ,← hρ] at h1 ⊢;rw [← hρ] at h2;have e1 : b * Y = Q * s * Y + ρ * s := by rw [← h,← h1,Nat.add_mul,Nat.mul_comm Y Q,Nat.mul_right_comm]
 have lo : Q * s ≤ b := by
  refine Nat.le_of_mul_le_mul_right (c := Y) ?_ hY;omega
 have hi : b < (Q + 1) * s := by
  refine Nat.lt_of_mul_lt_mul_right (a := Y) ?_
  rw [e1,Nat.add_mul Q 1 s,Nat.one_mul,Nat.add_mul];(have : ρ * s < s * Y := by rw [Nat.mul_comm s];exact Nat.mul_lt_mul_of_pos_right h2 hs);omega
 have hq : b / s = Q := Nat.div_eq_of_lt_le lo hi;refine ⟨hq.symm,?_⟩;have h3 := Nat.div_add_mod b s;rw [hq] at h3;(have e2 : b * Y = Q * s * Y + (b % s) * Y := by rw [← Nat.add_mul,Nat.mul_comm Q s,h3]);omega
theorem zHR (n e : Int) (lx ly l : List Int) (m Q : Nat) (high : Bool) (hQ1 : Q ≠ 0) (hQ2 : Q < 10 ^ (m + 1)) (hm : m ≤ 100) :
  Ev (fun k => r5_Shortest.j2 k n lx ly e ((m : Int) + 1) (toD Q) l high true) (strOfNums (ds (strip Q)),e) := by
 obtain ⟨K1,h1⟩ := zWn (m + 1) Q hQ2 zO;obtain ⟨K2,h2⟩ := zWU (m + 1) Q hQ1 hQ2 zO;refine ⟨K1 + K2 + 1,fun k hk => ?_⟩;dsimp only at h1 h2 ⊢;obtain ⟨k',rfl⟩ : ∃ k',k = k' + 1 := ⟨k - 1,by omega⟩;rw [r5_Shortest.j2,if_pos rfl,h1 k' zO,Option.bind_some,h2 k' zO,Option.bind_some]
theorem zHT (n e : Int) (lx ly l : List Int) (m Q : Nat) (hQ0 : 10 ^ m ≤ Q) (hQ2 : Q < 10 ^ (m + 1)) (hm : m ≤ 100) (he : -100000 ≤ e) (he2 : e ≤ 100000) :
  Ev (fun k => r5_Shortest.j2 k n lx ly e ((m : Int) + 1) l (toD (Q + 1)) true false) (strOfNums (ds (strip (Q + 1))),if Q + 1 = 10 ^ (m + 1) then e + 1 else e) := by
 (have hlt : Q + 1 < 10 ^ (m + 2) := by rw [Nat.pow_succ];omega);obtain ⟨K1,h1⟩ := zWn (m + 2) (Q + 1) hlt zO;obtain ⟨K2,h2⟩ := zWU (m + 2) (Q + 1) zO hlt zO;refine ⟨K1 + K2 + 1,fun k hk => ?_⟩;dsimp only at h1 h2 ⊢;obtain ⟨k',rfl⟩ : ∃ k',k = k' + 1 := ⟨k - 1,by omega⟩;rw [r5_Shortest.j2,if_neg (by decide),if_pos rfl,h1 k' zO,Option.bind_some,zYl];by_cases h : Q + 1 = 10 ^ (m + 1)
 ·have hl : (ds (Q + 1)).length = m + 2 := zJs (m := m + 1) zO zO;rw [if_pos zO,if_pos h,h2 k' zO,Option.bind_some,wrapB _ zO zO]
 ·have hl : (ds (Q + 1)).length = m + 1 := zJs zO zO;rw [if_neg zO,if_neg h,h2 k' zO,Option.bind_some]
theorem zHS (n e : Int) (lx ly l l' : List Int) (m : Nat) (hm : m ≤ 100) (res : ByteArray × Int) (h : Ev (fun k => r5_Shortest.l0 k n lx ly e (((m + 1 : Nat) : Int) + 1)) res) :
  Ev (fun k => r5_Shortest.j2 k n lx ly e ((m : Int) + 1) l l' false false) res := by
 refine Ev.step (fun k => ?_) h;rw [r5_Shortest.j2,if_neg (by decide),if_neg (by decide),wrapB _ zO zO,show (m : Int) + 1 + 1 = ((m + 1 : Nat) : Int) + 1 by omega]
theorem zHh (n e : Int) (lx ly ld : List Int) (m Q ρ' Y s ρ dn up B : Nat) (ev low high : Bool) (res : ByteArray × Int) (hlow : low = true ↔ Low ρ dn ev) (hhigh : high = true ↔ (0 < ρ ∧ Far ρ up s ev))
  (hs : 0 < s) (hdn : 0 < dn) (hld : Digs ld) (hll : ld.length ≤ 1000) (hY : valD ld = Y) (hYp : 0 < Y) (hcross : ρ' * s = ρ * Y) (hρ : ρ' < 2 ^ B) (hB : B ≤ 10000) (hQ0 : 10 ^ m ≤ Q) (hQ2 : Q < 10 ^ (m + 1)) (hm : m ≤ 100) (he : -100000 ≤ e) (he2 : e ≤ 100000)
  (hres1 : Stop ρ dn up s ev → res = outF (m,pickX Q ρ dn up s ev) e) (hres2 : ¬ Stop ρ dn up s ev → Ev (fun k => r5_Shortest.l0 k n lx ly e (((m + 1 : Nat) : Int) + 1)) res) :
  Ev (fun k => r5_Shortest.j1 k n lx ly e ((m : Int) + 1) (toD Q) (toD ρ') ld (toD (Q + 1)) low high) res := by
 have hlρ := zXn hρ;obtain ⟨K1,h1⟩ := zKQ (toD ρ') (zQJ _) 1 zO;rw [zQN,Nat.pow_one] at h1;have hlρ2 := zXn (show ρ' * 2 < 2 ^ (B + 1) by rw [Nat.pow_succ];omega);obtain ⟨c,⟨K2,h2⟩,c1,c2⟩ := zGw (toD (ρ' * 2)) ld (zQJ _) hld zO zO;rw [zQN,hY] at c1 c2
 have d1 : c < 0 ↔ 2 * ρ < s := by
  rw [c1,← Nat.mul_lt_mul_right (a := s) hs,← Nat.mul_lt_mul_right (a := Y) (b := 2 * ρ) hYp,Nat.mul_right_comm,hcross,Nat.mul_comm Y s,show ρ * Y * 2 = 2 * ρ * Y by rw [Nat.mul_comm,Nat.mul_assoc]]
 have d2 : c = 0 ↔ 2 * ρ = s := by
  rw [c2];constructor
  ·intro h
   refine Nat.eq_of_mul_eq_mul_right hYp ?_
   (have e2 : ρ' * 2 * s = 2 * (ρ * Y) := by rw [Nat.mul_right_comm,hcross,Nat.mul_comm]);rw [Nat.mul_assoc,← e2,h,Nat.mul_comm]
  ·intro h
   refine Nat.eq_of_mul_eq_mul_right hs ?_
   (have e2 : ρ' * 2 * s = 2 * (ρ * Y) := by rw [Nat.mul_right_comm,hcross,Nat.mul_comm]);rw [e2,← Nat.mul_assoc,h,Nat.mul_comm]
 have hbit : r1_Bit.f (toD Q) 0 = some ((Q % 2 : Nat) : Int) := by
  have := zKj (toD Q) (zQJ _) 0 (by decide);rw [zQN,Nat.pow_zero,Nat.div_one] at this;exact this
 have hT : (Low ρ dn ev ∧ (¬ (0 < ρ ∧ Far ρ up s ev) ∨ 2 * ρ < s ∨ (2 * ρ = s ∧ Q % 2 = 0))) → ∀ hh : Bool,Ev (fun k => r5_Shortest.j2 k n lx ly e ((m : Int) + 1) (toD Q) (toD (Q + 1)) hh true) res := by
  intro hp hh
  have hx : pickX Q ρ dn up s ev = Q := by
   unfold pickX;rw [if_neg];rintro ⟨hf,g⟩;rcases g with g | g | g
   ·exact g hp.1
   ·rcases hp.2 with h | h | h
    ·exact h ⟨by omega,hf⟩
    ·omega
    ·omega
   ·rcases hp.2 with h | h | h
    ·exact h ⟨by omega,hf⟩
    ·omega
    ·omega
  have hr := hres1 (.inl hp.1);rw [hx] at hr;unfold outF at hr;dsimp only at hr;rw [if_neg zO] at hr;rw [hr];exact zHR n e lx ly _ m Q hh (by have := zQE m;omega) hQ2 hm
 have hF : ¬ (Low ρ dn ev ∧ (¬ (0 < ρ ∧ Far ρ up s ev) ∨ 2 * ρ < s ∨ (2 * ρ = s ∧ Q % 2 = 0))) → Ev (fun k => r5_Shortest.j2 k n lx ly e ((m : Int) + 1) (toD Q) (toD (Q + 1)) high false) res := by
  intro hp;by_cases hh : high = true
  ·have hf := hhigh.1 hh;rw [hh]
   have hx : pickX Q ρ dn up s ev = Q + 1 := by
    unfold pickX;rw [if_pos];refine ⟨hf.2,?_⟩;by_cases hl : Low ρ dn ev
    ·right;(have h3 : ¬ (2 * ρ < s ∨ (2 * ρ = s ∧ Q % 2 = 0)) := fun h => hp ⟨hl,.inr h⟩);omega
    ·exact .inl hl
   have hr := hres1 (.inr hf.2);rw [hx] at hr;rw [hr];exact zHT n e lx ly _ m Q hQ0 hQ2 hm he he2
  ·(have hf : ¬ (0 < ρ ∧ Far ρ up s ev) := fun h => hh (hhigh.2 h));have hl : ¬ Low ρ dn ev := fun h => hp ⟨h,.inl hf⟩
   have h0 : 0 < ρ := by
    apply Nat.pos_of_ne_zero;intro h;exact hl (.inl zO)
   have hst : ¬ Stop ρ dn up s ev := by
    rintro (h | h)
    ·exact hl h
    ·exact hf ⟨h0,h⟩
   rw [show high = false by cases high <;> simp_all];exact zHS n e lx ly _ _ m hm res (hres2 hst)
 cases low with
 | false =>
  (have hl : ¬ Low ρ dn ev := fun h => by have := hlow.2 h;cases this);obtain ⟨K3,h3⟩ := hF (fun h => hl h.1);refine ⟨K1 + K2 + K3 + 1,fun k hk => ?_⟩;dsimp only at h1 h2 h3 ⊢;obtain ⟨k',rfl⟩ : ∃ k',k = k' + 1 := ⟨k - 1,by omega⟩;have p1 : r1_Up.f k' (toD ρ') 1 = some (toD (ρ' * 2)) := h1 k' zO;rw [r5_Shortest.j1,p1,Option.bind_some,h2 k' zO,Option.bind_some,if_neg (by decide)];exact h3 k' zO
 | true =>
  have hl : Low ρ dn ev := hlow.1 rfl;by_cases hh : high = true
  ·have hf := hhigh.1 hh;by_cases a1 : c < 0
   ·obtain ⟨K3,h3⟩ := hT ⟨hl,.inr (.inl (d1.1 a1))⟩ high;refine ⟨K1 + K2 + K3 + 1,fun k hk => ?_⟩;dsimp only at h1 h2 h3 ⊢;obtain ⟨k',rfl⟩ : ∃ k',k = k' + 1 := ⟨k - 1,by omega⟩;have p1 : r1_Up.f k' (toD ρ') 1 = some (toD (ρ' * 2)) := h1 k' zO;rw [r5_Shortest.j1,p1,Option.bind_some,h2 k' zO,Option.bind_some,if_pos rfl,if_pos hh,if_pos a1];exact h3 k' zO
   ·by_cases a2 : c = 0
    ·by_cases a3 : Q % 2 = 0
     ·obtain ⟨K3,h3⟩ := hT ⟨hl,.inr (.inr ⟨d2.1 a2,a3⟩)⟩ high;refine ⟨K1 + K2 + K3 + 1,fun k hk => ?_⟩;dsimp only at h1 h2 h3 ⊢;obtain ⟨k',rfl⟩ : ∃ k',k = k' + 1 := ⟨k - 1,by omega⟩;have p1 : r1_Up.f k' (toD ρ') 1 = some (toD (ρ' * 2)) := h1 k' zO;rw [r5_Shortest.j1,p1,Option.bind_some,h2 k' zO,Option.bind_some,if_pos rfl,if_pos hh,if_neg a1,if_pos a2,hbit,Option.bind_some,a3];exact h3 k' zO
     ·obtain ⟨K3,h3⟩ := hF (by rintro ⟨_,h | h | h⟩;exact h hf;exact a1 (d1.2 h);exact a3 h.2);refine ⟨K1 + K2 + K3 + 1,fun k hk => ?_⟩;dsimp only at h1 h2 h3 ⊢;obtain ⟨k',rfl⟩ : ∃ k',k = k' + 1 := ⟨k - 1,by omega⟩;have p1 : r1_Up.f k' (toD ρ') 1 = some (toD (ρ' * 2)) := h1 k' zO;rw [r5_Shortest.j1,p1,Option.bind_some,h2 k' zO,Option.bind_some,if_pos rfl,if_pos hh,if_neg a1,if_pos a2,hbit,Option.bind_some,show Q % 2 = 1 by omega];exact h3 k' zO
    ·obtain ⟨K3,h3⟩ := hF (by rintro ⟨_,h | h | h⟩;exact h hf;exact a1 (d1.2 h);exact a2 (d2.2 h.1));refine ⟨K1 + K2 + K3 + 1,fun k hk => ?_⟩;dsimp only at h1 h2 h3 ⊢;obtain ⟨k',rfl⟩ : ∃ k',k = k' + 1 := ⟨k - 1,by omega⟩;have p1 : r1_Up.f k' (toD ρ') 1 = some (toD (ρ' * 2)) := h1 k' zO;rw [r5_Shortest.j1,p1,Option.bind_some,h2 k' zO,Option.bind_some,if_pos rfl,if_pos hh,if_neg a1,if_neg a2];exact h3 k' zO
  ·obtain ⟨K3,h3⟩ := hT ⟨hl,.inl (fun h => hh (hhigh.2 h))⟩ high;refine ⟨K1 + K2 + K3 + 1,fun k hk => ?_⟩;dsimp only at h1 h2 h3 ⊢;obtain ⟨k',rfl⟩ : ∃ k',k = k' + 1 := ⟨k - 1,by omega⟩;have p1 : r1_Up.f k' (toD ρ') 1 = some (toD (ρ' * 2)) := h1 k' zO;rw [r5_Shortest.j1,p1,Option.bind_some,h2 k' zO,Option.bind_some,if_pos rfl,if_neg hh];exact h3 k' zO
theorem zVh {x y R S p q : Nat} {e : Int} (he : e = (q : Int) - p) (hxy : x * S = R * y) (m : Nat) : topN x e m * (S * 10 ^ q) = (R * 10 ^ p * 10 ^ m) * botN y e m := by
 unfold topN botN
 have e1 : 10 ^ ((m : Int) - e).toNat * 10 ^ q = 10 ^ p * 10 ^ m * 10 ^ (e - m).toNat := by
  rw [← Nat.pow_add,← Nat.pow_add,← Nat.pow_add,show ((m : Int) - e).toNat + q = p + m + (e - m).toNat by omega]
 generalize 10 ^ ((m : Int) - e).toNat = a at e1 ⊢;generalize 10 ^ q = b at e1 ⊢;generalize 10 ^ (e - (m : Int)).toNat = c at e1 ⊢;rw [show x * a * (S * b) = x * S * (a * b) by rw [Nat.mul_assoc,Nat.mul_left_comm a S,← Nat.mul_assoc],e1,hxy]
 ac_rfl
theorem zVS : Digs [(1 : Int)] := zXX zO
theorem zBD (w n : Nat) : (((w : Int) == (n : Int)) = true) ↔ w = n := by
 rw [beq_iff_eq];omega
theorem zWp {lx ly : List Int} {x y B n R S D U p q : Nat} {e : Int} (qu : Quo lx ly x y B) (h : Sp n R S D U) (hn : 0 < n) (hn2 : n < INF) (he : e = (q : Int) - p) (hxy : x * S = R * y) (hlo : -500 ≤ e) (hhi : e ≤ 400)
  (hr1 : S * 10 ^ q ≤ R * 10 ^ p) (hr2 : R * 10 ^ p < 10 * (S * 10 ^ q)) : ∀ (t m : Nat),m + t = 17 → (∃ j,m ≤ j ∧ j < m + t ∧ Stop (R * 10 ^ p * 10 ^ j % (S * 10 ^ q)) (D * 10 ^ p * 10 ^ j) (U * 10 ^ p * 10 ^ j) (S * 10 ^ q) (n % 2 == 0)) →
  Ev (fun k => r5_Shortest.l0 k (n : Int) lx ly e ((m : Int) + 1)) (outF (gen (R * 10 ^ p) (S * 10 ^ q) (D * 10 ^ p) (U * 10 ^ p) (n % 2 == 0) t m) e)
 | 0,m,hm,hj => by obtain ⟨j,_,_,_⟩ := hj;omega
 | t + 1,m,hm,hj => by
  have hs : 0 < S * 10 ^ q := Nat.mul_pos h.hS (zQE q);have hdn : 0 < D * 10 ^ p * 10 ^ m := Nat.mul_pos (Nat.mul_pos (sp_D h hn) (zQE p)) (zQE m);obtain ⟨ld,hld,hll,hlv,K1,g1⟩ := zBM qu e m zO zO zO;have hbp : 0 < botN y e m := Nat.mul_pos qu.py (zQE _);obtain ⟨M9,hM9⟩ : ∃ M : Nat,M = 9000 := ⟨_,rfl⟩;have hbl : botN y e m < 2 ^ M9 := zYM qu.byy (by have := qu.hB;omega);obtain ⟨hq,hcr⟩ := zVR hs hbp (zVh he hxy m);rw [hq] at g1;obtain ⟨ρ',hρ'⟩ : ∃ ρ',ρ' = topN x e m % botN y e m := ⟨_,rfl⟩;(have hρl : ρ' < botN y e m := by rw [hρ'];exact Nat.mod_lt _ hbp);rw [← hρ'] at hcr g1;clear hρ';obtain ⟨b,hb⟩ : ∃ b,b = botN y e m := ⟨_,rfl⟩;rw [← hb] at hcr hlv hbp hbl hρl;clear hb
  have hQρ : R * 10 ^ p * 10 ^ m = (R * 10 ^ p * 10 ^ m / (S * 10 ^ q)) * (S * 10 ^ q) + R * 10 ^ p * 10 ^ m % (S * 10 ^ q) := by
   rw [Nat.mul_comm (R * 10 ^ p * 10 ^ m / (S * 10 ^ q))];exact (Nat.div_add_mod _ _).symm
  have hρs := Nat.mod_lt (R * 10 ^ p * 10 ^ m) hs
  have hQ0 : 10 ^ m ≤ R * 10 ^ p * 10 ^ m / (S * 10 ^ q) := by
   rw [Nat.le_div_iff_mul_le hs,Nat.mul_comm];exact Nat.mul_le_mul_right _ hr1
  have hQ2 : R * 10 ^ p * 10 ^ m / (S * 10 ^ q) < 10 ^ (m + 1) := by
   refine Nat.div_lt_of_lt_mul ?_
   rw [Nat.pow_succ,Nat.mul_comm (10 ^ m) 10,← Nat.mul_assoc,Nat.mul_comm (S * 10 ^ q)];exact Nat.mul_lt_mul_of_pos_right hr2 (zQE m)
  have hgen : (Stop (R * 10 ^ p * 10 ^ m % (S * 10 ^ q)) (D * 10 ^ p * 10 ^ m) (U * 10 ^ p * 10 ^ m) (S * 10 ^ q) (n % 2 == 0) → outF (gen (R * 10 ^ p) (S * 10 ^ q) (D * 10 ^ p) (U * 10 ^ p) (n % 2 == 0) (t + 1) m) e = outF (m,pickX (R * 10 ^ p * 10 ^ m / (S * 10 ^ q)) (R * 10 ^ p * 10 ^ m % (S * 10 ^ q)) (D * 10 ^ p * 10 ^ m) (U * 10 ^ p * 10 ^ m) (S * 10 ^ q) (n % 2 == 0)) e) ∧
    (¬ Stop (R * 10 ^ p * 10 ^ m % (S * 10 ^ q)) (D * 10 ^ p * 10 ^ m) (U * 10 ^ p * 10 ^ m) (S * 10 ^ q) (n % 2 == 0) → Ev (fun k => r5_Shortest.l0 k (n : Int) lx ly e (((m + 1 : Nat) : Int) + 1)) (outF (gen (R * 10 ^ p) (S * 10 ^ q) (D * 10 ^ p) (U * 10 ^ p) (n % 2 == 0) (t + 1) m) e)) := by
   refine ⟨fun hst => by rw [gen,if_pos hst],fun hst => ?_⟩;rw [gen,if_neg hst]
   refine zWp qu h hn hn2 he hxy hlo hhi hr1 hr2 t (m + 1) zO ?_
   obtain ⟨j,j1,j2,j3⟩ := hj;(have hne : m ≠ j := fun hj => hst (hj ▸ j3));exact ⟨j,by omega,by omega,j3⟩
  have hlowI := zHO (m := m) h hn he hQρ;have hundI := zVc (m := m) h he hQρ;have hfarI := zHX (m := m) h he hQρ;have habvI := zBV (m := m) h hn he hQρ hρs;obtain ⟨Q,hQe⟩ : ∃ Q,Q = R * 10 ^ p * 10 ^ m / (S * 10 ^ q) := ⟨_,rfl⟩;obtain ⟨ρ,hρe⟩ : ∃ ρ,ρ = R * 10 ^ p * 10 ^ m % (S * 10 ^ q) := ⟨_,rfl⟩;obtain ⟨dn,hdne⟩ : ∃ dn,dn = D * 10 ^ p * 10 ^ m := ⟨_,rfl⟩;obtain ⟨up,hupe⟩ : ∃ up,up = U * 10 ^ p * 10 ^ m := ⟨_,rfl⟩;obtain ⟨s,hse⟩ : ∃ s,s = S * 10 ^ q := ⟨_,rfl⟩;obtain ⟨res,hres⟩ : ∃ res,res = outF (gen (R * 10 ^ p) (S * 10 ^ q) (D * 10 ^ p) (U * 10 ^ p) (n % 2 == 0) (t + 1) m) e := ⟨_,rfl⟩;rw [← hres] at hgen ⊢;rw [← hQe,← hρe,← hdne,← hupe,← hse] at hgen;rw [← hQe,← hρe,← hdne] at hlowI;rw [← hQe] at hundI habvI;rw [← hQe,← hρe,← hupe,← hse] at hfarI;rw [← hQe] at hQ0 hQ2 g1;rw [← hse] at hs;rw [← hρe,← hse] at hcr;rw [← hdne] at hdn;clear hρs hQρ hQe hρe hdne hupe hse hres hr1 hr2 hq;(have hQp : Q ≠ 0 := by have := zQE m;omega);obtain ⟨K2,g2⟩ := zJK (toD Q) [1] (zQJ _) zVS (by have := zXn (Nat.lt_trans hQ2 (zYI (m + 1)));omega) (by decide);rw [zQN,show valD [1] = 1 from rfl] at g2;obtain ⟨K3,g3⟩ := zWn (m + 1) Q hQ2 zO;have hsz1 := zZD hQ2;obtain ⟨w1,hw1,K4,g4⟩ := zVD (strOfNums (ds Q)) (e - m) (zHp Q) zO zO zO;rw [zHo] at hw1
  have hlow : (((w1 : Int) == (n : Int)) = true) ↔ Low ρ dn (n % 2 == 0) := by
   rw [zBD,zJa hQp zO zO hn2 hw1];exact ⟨fun g => hlowI.1 g.1,fun g => ⟨hlowI.2 g,hundI⟩⟩
  (have hw : wrap64 (wrap64 (e - ((m : Int) + 1)) + 1) = e - m := by rw [wrapB (e - ((m : Int) + 1)) zO zO,wrapB _ zO zO];omega);by_cases h0 : ρ' = 0
  ·have hρ0 : ρ = 0 := by
    rw [h0,Nat.zero_mul] at hcr;rcases Nat.mul_eq_zero.1 hcr.symm with g | g
    ·exact g
    ·omega
   obtain ⟨K5,g5⟩ := zHh (n : Int) e lx ly ld m Q ρ' b s ρ dn up M9 (n % 2 == 0) ((w1 : Int) == (n : Int)) false res hlow ⟨(fun g => by cases g),(fun g => by omega)⟩ hs hdn hld hll hlv hbp hcr (Nat.lt_trans hρl hbl) zO hQ0 hQ2 zO zO zO hgen.1 hgen.2;refine ⟨K1 + K2 + K3 + K4 + K5 + 1,fun k hk => ?_⟩;dsimp only at g1 g2 g3 g4 g5 ⊢;obtain ⟨k',rfl⟩ : ∃ k',k = k' + 1 := ⟨k - 1,by omega⟩;rw [r5_Shortest.l0,g1 k' zO,Option.bind_some];dsimp only;rw [g2 k' zO,Option.bind_some,g3 k' zO,Option.bind_some,hw,g4 k' zO,Option.bind_some,if_neg (by rw [h0,zXf];decide)];exact g5 k' zO
  ·have hρ0 : 0 < ρ := by
    apply Nat.pos_of_ne_zero;intro g;rw [g,Nat.zero_mul] at hcr;rcases Nat.mul_eq_zero.1 hcr with g | g
    ·exact h0 g
    ·omega
   (have hQ3 : Q + 1 < 10 ^ (m + 2) := by rw [Nat.pow_succ];omega);obtain ⟨K6,g6⟩ := zWn (m + 2) (Q + 1) hQ3 zO;have hsz2 := zZD hQ3;obtain ⟨w2,hw2,K7,g7⟩ := zVD (strOfNums (ds (Q + 1))) (e - m) (zHp _) zO zO zO;rw [zHo] at hw2
   have hhigh : (((w2 : Int) == (n : Int)) = true) ↔ (0 < ρ ∧ Far ρ up s (n % 2 == 0)) := by
    rw [zBD,zJa zO zO zO hn2 hw2];exact ⟨fun g => ⟨hρ0,hfarI.1 g.2⟩,fun g => ⟨habvI,hfarI.2 g.2⟩⟩
   obtain ⟨K5,g5⟩ := zHh (n : Int) e lx ly ld m Q ρ' b s ρ dn up M9 (n % 2 == 0) ((w1 : Int) == (n : Int)) ((w2 : Int) == (n : Int)) res hlow hhigh hs hdn hld hll hlv hbp hcr (Nat.lt_trans hρl hbl) zO hQ0 hQ2 zO zO zO hgen.1 hgen.2;refine ⟨K1 + K2 + K3 + K4 + K5 + K6 + K7 + 1,fun k hk => ?_⟩;dsimp only at g1 g2 g3 g4 g5 g6 g7 ⊢;obtain ⟨k',rfl⟩ : ∃ k',k = k' + 1 := ⟨k - 1,by omega⟩;(have hpos : ((toD ρ').length : Int) > 0 := by rw [zYa h0,List.length_cons];omega);rw [r5_Shortest.l0,g1 k' zO,Option.bind_some];dsimp only;rw [g2 k' zO,Option.bind_some,g3 k' zO,Option.bind_some,hw,g4 k' zO,Option.bind_some,if_pos hpos,g6 k' zO,Option.bind_some,g7 k' zO,Option.bind_some];exact g5 k' zO
theorem zJX (a : Nat) (h : a < 18446744073709551616) : Go.bits .andNot .u64 (a : Int) 9223372036854775808 = ((rung a : Nat) : Int) := by
 unfold Go.bits;rw [show IntKind.u64.bits = 64 from rfl];simp only [BitVec.toNat_and,BitVec.toNat_not];(have e2 : (BitVec.ofInt 64 (a : Int)).toNat = a := by rw [BitVec.ofInt_natCast,BitVec.toNat_ofNat,Nat.mod_eq_of_lt zO]);rw [e2,show 2 ^ 64 - 1 - (BitVec.ofInt 64 9223372036854775808).toNat = 2 ^ 63 - 1 from rfl,Nat.and_two_pow_sub_one_eq_mod];show IntKind.u64.wrap ((a % 9223372036854775808 : Nat) : Int) = ((a % 9223372036854775808 : Nat) : Int);exact u64_in _ zO
theorem zGO (a : Nat) (h : a < 18446744073709551616) : Go.bits .and .u64 ((a : Int) / 4503599627370496) 2047 = ((a / 4503599627370496 % 2048 : Nat) : Int) := by
 have := zWC (a / 4503599627370496) zO;rw [← this]
 congr 1
theorem zZn (a : Nat) (h : a < 18446744073709551616) : Ev (fun k => r1_Kind.f k (a : Int)) (kindV a) := by
 have hr : rung a = a % 9223372036854775808 := rfl;have hq := zGO a h;have hf : Go.bits .and .u64 (a : Int) 4503599627370495 = ((a % 4503599627370496 : Nat) : Int) := zZu a h;unfold r1_Kind.f kindV nanB infB;rw [hq,hf];by_cases c1 : a / 4503599627370496 % 2048 = 2047
 ·by_cases c2 : a % 4503599627370496 = 0
  ·rw [if_neg (by rw [decide_eq_true_iff];omega),if_neg zO,if_pos (by rw [decide_eq_true_iff];omega)];refine Ev.congr (fun k => if_pos zO) (Ev.step (f := fun _ => some 3) (fun k => ?_) (Ev.now _));rw [r1_Kind.j0,if_neg (by rw [c2];decide),if_pos zO]
  ·(have hn : (((a % 4503599627370496 : Nat) : Int) != 0) = true := by rw [bne_iff_ne];omega);rw [if_pos (by rw [decide_eq_true_iff];omega)];refine Ev.congr (fun k => if_pos zO) (Ev.step (f := fun _ => some 4) (fun k => ?_) (Ev.now _));rw [r1_Kind.j0,if_pos hn]
 ·rw [if_neg (by rw [decide_eq_true_iff];omega)];by_cases c2 : a / 4503599627370496 % 2048 = 0
  ·by_cases c3 : a % 4503599627370496 = 0
   ·rw [if_pos zO];refine Ev.congr (fun k => if_neg zO) (Ev.step (fun k => ?_) (Ev.step (f := fun _ => some 0) (g := fun k => r1_Kind.j1 k ((a / 4503599627370496 % 2048 : Nat) : Int) true) (fun k => ?_) (Ev.now _)))
    ·rw [r1_Kind.j0,if_neg (by decide),if_neg zO,if_pos zO,c3]
     rfl
    ·rw [r1_Kind.j1,if_pos rfl]
   ·have hn : (((a % 4503599627370496 : Nat) : Int) == 0) = false := beq_eq_false_iff_ne.2 zO;rw [if_neg zO,if_neg (by rw [decide_eq_true_iff];omega),if_pos zO];refine Ev.congr (fun k => if_neg zO) (Ev.step (fun k => ?_) (Ev.step (f := fun _ => some 1) (g := fun k => r1_Kind.j1 k ((a / 4503599627370496 % 2048 : Nat) : Int) false) (fun k => ?_) (Ev.now _)))
    ·rw [r1_Kind.j0,if_neg (by decide),if_neg zO,if_pos zO,hn]
    ·rw [r1_Kind.j1,if_neg (by decide),if_pos zO]
  ·rw [if_neg zO,if_neg (by rw [decide_eq_true_iff];omega),if_neg zO];refine Ev.congr (fun k => if_neg zO) (Ev.step (fun k => ?_) (Ev.step (f := fun _ => some 2) (g := fun k => r1_Kind.j1 k ((a / 4503599627370496 % 2048 : Nat) : Int) false) (fun k => ?_) (Ev.now _)))
   ·rw [r1_Kind.j0,if_neg (by decide),if_neg zO,if_neg zO]
   ·rw [r1_Kind.j1,if_neg (by decide),if_neg zO]
theorem zVm (n : Nat) (h0 : 0 < n) (h1 : n < INF) : ∃ (j q : Nat),n = j * 4503599627370496 + q ∧ 0 < q ∧ q < 9007199254740992 ∧ (j = 0 ∨ 4503599627370496 ≤ q) ∧ j ≤ 2045 ∧ ∃ b : Bool,Ev (fun k => r1_Parts.f k (n : Int)) (b,(j : Int) - 1074,(q : Int)) := by
 have hI : INF = 9218868437227405312 := rfl;rw [hI] at h1;have hr : rung n = n := Nat.mod_eq_of_lt zO;have hk := zWu (a := n) zO (by rw [hr,hI];omega);obtain ⟨K1,g1⟩ := zZn n zO;dsimp only at g1;rw [hk,hr] at g1;by_cases h : n < 4503599627370496
 ·refine ⟨0,n,by omega,h0,by omega,.inl rfl,by omega,((n : Int) / 9223372036854775808 == 1),K1,fun k hk => ?_⟩;have p1 := g1 k hk;rw [if_pos h] at p1;dsimp only;rw [r1_Parts.f,p1,Option.bind_some,if_pos rfl,r1_Neg.f,Option.bind_some,zZu n zO,Nat.mod_eq_of_lt h]
  rfl
 ·refine ⟨n / 4503599627370496 - 1,4503599627370496 + n % 4503599627370496,by omega,by omega,by omega,.inr zO,by omega,((n : Int) / 9223372036854775808 == 1),K1,fun k hk => ?_⟩;have p1 := g1 k hk;rw [if_neg h] at p1;have e1 : ((n : Int) / 4503599627370496) = ((n / 4503599627370496 : Nat) : Int) := by omega
  have e3 : IntKind.u64.wrap (((n % 4503599627370496 : Nat) : Int) + 4503599627370496) = ((4503599627370496 + n % 4503599627370496 : Nat) : Int) := by
   have := u64_in (4503599627370496 + n % 4503599627370496) zO;rw [← this]
   congr 1
   omega
  dsimp only;rw [r1_Parts.f,p1,Option.bind_some,if_neg (by decide),if_pos rfl,r1_Neg.f,Option.bind_some,zZu n zO,e1,zWC _ zO,e3,wrapB ((n / 4503599627370496 % 2048 : Nat) : Int) zO zO,wrapB _ zO zO,show (((n / 4503599627370496 % 2048 : Nat) : Int) - 1075) = ((n / 4503599627370496 - 1 : Nat) : Int) - 1074 by omega]
theorem rdig4 (q : Nat) (h : q < 18446744073709551616) : ∃ l : List Int,r1_Digits.f (q : Int) = some l ∧ Digs l ∧ valD l = q ∧ l.length = 4 := by
 have e1 : Go.bits .and .u64 (q : Int) 65535 = ((q % 65536 : Nat) : Int) := zKy q h
 have e2 : Go.bits .and .u64 ((q : Int) / 65536) 65535 = ((q / 65536 % 65536 : Nat) : Int) := by
  rw [show (q : Int) / 65536 = ((q / 65536 : Nat) : Int) by omega];exact zKy _ zO
 have e3 : Go.bits .and .u64 ((q : Int) / 4294967296) 65535 = ((q / 4294967296 % 65536 : Nat) : Int) := by
  rw [show (q : Int) / 4294967296 = ((q / 4294967296 : Nat) : Int) by omega];exact zKy _ zO
 refine ⟨[((q % 65536 : Nat) : Int),((q / 65536 % 65536 : Nat) : Int),((q / 4294967296 % 65536 : Nat) : Int),((q / 281474976710656 : Nat) : Int)],?_,?_,?_,rfl⟩
 ·rw [r1_Digits.f,e1,e2,e3]
  rfl
 ·intro z hz;simp only [List.mem_cons,List.not_mem_nil,or_false] at hz;rcases hz with rfl | rfl | rfl | rfl <;> omega
 ·simp only [valD,Int.toNat_natCast];omega
theorem zVe (t : Nat) : 2 ^ (3 * t) ≤ 10 ^ t := by rw [Nat.pow_mul];exact Nat.pow_le_pow_left (by decide) t
theorem zVp (n : Nat) (h0 : 0 < n) (h1 : n < INF) (B t : Nat) (hB : B = 1100) (ht : t = 400) : ∃ (lx ly : List Int) (x y : Nat),Quo lx ly x y B ∧ x * K = 2 * units n * y ∧ lx.length ≤ 150 ∧ ly.length ≤ 150 ∧
  Least x y (-(t : Int)) ∧ ¬ Least x y t ∧ Ev (fun k => r5_Fixed.f k (n : Int)) (lx,ly) := by
 obtain ⟨j,q,hr,hq0,hq,hjq,hj,b,K1,g1⟩ := zVm n h0 h1;obtain ⟨l,hl1,hl2,hl3,hl4⟩ := rdig4 q zO;(have hu : units n = q * 2 ^ j := by rw [hr];exact zXy j q zO hjq);obtain ⟨e,he⟩ : ∃ e : Int,e = (j : Int) - 1074 := ⟨_,rfl⟩;rw [← he] at g1;have hK := zHf j e zO;have hb10 : 2 ^ B ≤ 10 ^ t := Nat.le_trans (Nat.pow_le_pow_right (by decide) zO) (zVe t)
 have least1 : ∀ x y : Nat,0 < x → y < 2 ^ B → Least x y (-(t : Int)) := by
  intro x y hx hy;unfold Least;rw [show (-(t : Int)).toNat = 0 by omega,show (-(-(t : Int))).toNat = t by omega,Nat.pow_zero,Nat.mul_one];exact Nat.le_trans (Nat.le_of_lt hy) (Nat.le_trans hb10 (Nat.le_mul_of_pos_left _ hx))
 have least2 : ∀ x y : Nat,0 < y → x < 2 ^ B → ¬ Least x y t := by
  intro x y hy hx;unfold Least;rw [show (-(t : Int)).toNat = 0 by omega,show ((t : Int)).toNat = t by omega,Nat.pow_zero,Nat.mul_one];exact Nat.not_le_of_lt (Nat.lt_of_lt_of_le hx (Nat.le_trans hb10 (Nat.le_mul_of_pos_left _ hy)))
 have hxK : q * 2 ^ e.toNat * K = 2 * units n * 2 ^ (-e).toNat := by
  rw [Nat.mul_assoc,hK,hu]
  ac_rfl
 by_cases hpos : e ≥ 0
 ·obtain ⟨K2,g2⟩ := zKQ l hl2 e.toNat zO;rw [hl3] at g2;have hx : q * 2 ^ e.toNat < 2 ^ B := lt_up (a := 53) zO zO;have hlen := zXn hx;rw [show (-e).toNat = 0 by omega,Nat.pow_zero] at hxK;have hxp : 0 < q * 2 ^ e.toNat := Nat.mul_pos hq0 (Nat.two_pow_pos _);have h1B : 1 < 2 ^ B := Nat.one_lt_two_pow zO;refine ⟨_,[1],q * 2 ^ e.toNat,1,⟨zQJ _,zVS,zQN _,rfl,by omega,by decide,hx,h1B,hxp,by decide,by omega⟩,hxK,by omega,by decide,least1 _ _ hxp h1B,least2 _ _ (by decide) hx,K1 + K2,fun k hk => ?_⟩;dsimp only at g1 g2 ⊢;have p2 := g2 k zO;rw [show ((e.toNat : Nat) : Int) = e by omega] at p2;rw [r5_Fixed.f,g1 k zO,Option.bind_some];dsimp only;rw [if_pos hpos,hl1,Option.bind_some,p2,Option.bind_some]
 ·obtain ⟨K2,g2⟩ := zKQ [1] zVS (-e).toNat (by simp only [List.length_singleton];omega);rw [show valD [1] = 1 from rfl,Nat.one_mul] at g2;have hy : 2 ^ (-e).toNat < 2 ^ B := Nat.pow_lt_pow_right (by decide) zO;have hlen := zXn hy
  have hx : q < 2 ^ B := by
   have := lt_up (x := q) (a := 53) (b := 0) (B := B) zO zO
   rwa [Nat.pow_zero,Nat.mul_one] at this
  rw [show e.toNat = 0 by omega,Nat.pow_zero,Nat.mul_one] at hxK;refine ⟨l,_,q,2 ^ (-e).toNat,⟨hl2,zQJ _,hl3,zQN _,by omega,by omega,hx,hy,hq0,Nat.two_pow_pos _,by omega⟩,hxK,by omega,by omega,least1 _ _ hq0 hy,least2 _ _ (Nat.two_pow_pos _) hx,K1 + K2,fun k hk => ?_⟩;dsimp only at g1 g2 ⊢;have p2 := g2 k zO;rw [show (((-e).toNat : Nat) : Int) = -e by omega] at p2;rw [r5_Fixed.f,g1 k zO,Option.bind_some];dsimp only;rw [if_neg hpos,hl1,Option.bind_some,wrapB (-e) zO zO,p2,Option.bind_some]
theorem zWW {n R S D U p q : Nat} (hn : 0 < n) (hn2 : n < INF) (h : Sp n R S D U) (hf : Far (R * 10 ^ p) (U * 10 ^ p) (S * 10 ^ q) (n % 2 == 0)) (hnf : ¬ Far (R * 10 ^ p) (U * 10 ^ p) (S * 10 ^ (q + 1)) (n % 2 == 0)) :
  Ev (fun k => r5_Shortest.f k (n : Int)) (outF (gen (R * 10 ^ p) (S * 10 ^ q) (D * 10 ^ p) (U * 10 ^ p) (n % 2 == 0) 17 0) ((q : Int) - p)) := by
 obtain ⟨lx,ly,x,y,qu,hxK,hl1,hl2,ls1,ls2,K1,g1⟩ := zVp n hn hn2 1100 400 rfl rfl;obtain ⟨e,e1,e2,e3,e4,K2,g2⟩ := zVk qu 400 400 ls1 ls2 (by decide) (by decide) hl1 hl2
 have hxy : x * S = R * y := by
  refine Nat.eq_of_mul_eq_mul_right K_pos ?_
  rw [Nat.mul_right_comm,hxK,Nat.mul_right_comm R y,h.hR]
  ac_rfl
 have hs : 0 < S * 10 ^ q := Nat.mul_pos h.hS (zQE q);have hU := Nat.mul_pos (sp_U h) (zQE p);have hle := zBx hnf;rw [Nat.pow_succ,← Nat.mul_assoc] at hle
 have join : ∀ res,Ev (fun k => r5_Shortest.l0 k (n : Int) lx ly e (((0 : Nat) : Int) + 1)) res → Ev (fun k => r5_Shortest.f k (n : Int)) res := by
  intro res hres;obtain ⟨K3,g3⟩ := hres;refine ⟨K1 + K2 + K3,fun k hk => ?_⟩;dsimp only at g1 g2 g3 ⊢;rw [r5_Shortest.f,g1 k zO,Option.bind_some];dsimp only;rw [g2 k zO,Option.bind_some];exact g3 k zO
 apply join;rcases powers h hn qu.px qu.py hxy hf hnf e1 e2 with ⟨c1,c2⟩ | ⟨c1,c2⟩
 ·rw [← c1];exact zWp qu h hn hn2 c1 hxy zO zO c2 zO 17 0 rfl ⟨16,by omega,by omega,zYO _ h hn c2⟩
 ·have hnt := zGE h hn hf c2;(have eR : R * 10 ^ (p + 1) = R * 10 ^ p * 10 := by rw [Nat.pow_succ,Nat.mul_assoc]);(have eU : U * 10 ^ (p + 1) = U * 10 ^ p * 10 := by rw [Nat.pow_succ,Nat.mul_assoc]);(have eD : D * 10 ^ (p + 1) = D * 10 ^ p * 10 := by rw [Nat.pow_succ,Nat.mul_assoc]);(have hge : S * 10 ^ q ≤ R * 10 ^ (p + 1) := by rw [eR];omega);(have hlt : R * 10 ^ (p + 1) < 10 * (S * 10 ^ q) := by rw [eR];omega);(have hD2 : 2 * (D * 10 ^ p) ≤ R * 10 ^ p := by rw [← Nat.mul_assoc];exact Nat.mul_le_mul_right _ (zWO h));have hRp := Nat.mul_pos (sp_R h hn) (zQE p);have hloop := zWp qu h hn hn2 (p := p + 1) (q := q) (e := e) zO hxy zO zO hge hlt 17 0 rfl;rw [eR,eU,eD] at hloop;obtain ⟨r,hr⟩ : ∃ r,r = R * 10 ^ p := ⟨_,rfl⟩;obtain ⟨s,hse⟩ : ∃ s,s = S * 10 ^ q := ⟨_,rfl⟩;obtain ⟨up,hup⟩ : ∃ up,up = U * 10 ^ p := ⟨_,rfl⟩;obtain ⟨dn,hdn⟩ : ∃ dn,dn = D * 10 ^ p := ⟨_,rfl⟩;rw [← hr,← hse,← hup,← hdn] at hloop;rw [← hr,← hse,← hup] at hf;rw [← hr,← hse] at c2 hnt;rw [← hse] at hs;rw [← hr,← hdn] at hD2;rw [← hr] at hRp;rw [← hr,← hse,← hup,← hdn];clear hle hge hlt hU;have hq9 : r * 10 / s = 9 := Nat.div_eq_of_lt_le zO zO
  have hρ : r * 10 % s = r * 10 - 9 * s := by
   have := Nat.div_add_mod (r * 10) s;rw [hq9,Nat.mul_comm s 9] at this;omega
  have hfar : Far (r * 10 - 9 * s) (up * 10) s (n % 2 == 0) := by
   rcases hf with g | ⟨g,g2⟩
   ·exact .inl zO
   ·exact .inr ⟨by omega,g2⟩
  have hg1 : gen (r * 10) s (dn * 10) (up * 10) (n % 2 == 0) 17 0 = (0,10) := by
   rw [gen,Nat.pow_zero,Nat.mul_one,Nat.mul_one,Nat.mul_one,hρ,hq9,if_pos (.inr hfar)];unfold pickX;rw [if_pos ⟨hfar,.inr (.inl zO)⟩]
  have hg2 : gen r s dn up (n % 2 == 0) 17 0 = (0,1) := by
   have hnl : ¬ Low r dn (n % 2 == 0) := by
    unfold Low;rintro (g | ⟨g,_⟩) <;> omega
   rw [gen,Nat.pow_zero,Nat.mul_one,Nat.mul_one,Nat.mul_one,Nat.mod_eq_of_lt c2,Nat.div_eq_of_lt c2,if_pos (.inr hf)];unfold pickX;rw [if_pos ⟨hf,.inl hnl⟩]
  have hlast := hloop ⟨0,by omega,by omega,by rw [Nat.pow_zero,Nat.mul_one,Nat.mul_one,Nat.mul_one,hρ];exact .inr hfar⟩;rw [hg1] at hlast;rw [hg2]
  have hout : outF (0,10) e = outF (0,1) ((q : Int) - p) := by
   unfold outF;dsimp only;rw [if_pos (by decide),if_neg (by decide),zYU (x := 10) (by decide) (by decide),c1]
  rw [← hout];exact hlast
end Go.Proofs.YtongfmeediokmaaGreatDoor.Pure
end
section
namespace Go.Proofs.YtongfmeediokmaaGreatDoor.Flo
theorem zGp (t : Nat) : 2 ^ (3 * t) ≤ 10 ^ t := by rw [Nat.pow_mul];exact Nat.pow_le_pow_left (by decide) t
theorem zJE {a : Nat} (h : a < INF) (B : Nat) (hB : B = 2098) : units a < 2 ^ B := by
 obtain ⟨j,q,h1,h2,h3,h4,_⟩ := zKL a;unfold INF at h;rw [h4,show B = 53 + (B - 53) by omega,Nat.pow_add];have : 2 ^ j ≤ 2 ^ (B - 53) := Nat.pow_le_pow_right (by decide) zO
 calc q * 2 ^ j < 2 ^ 53 * 2 ^ j := Nat.mul_lt_mul_of_pos_right h2 (Nat.two_pow_pos _)
  _ ≤ 2 ^ 53 * 2 ^ (B - 53) := Nat.mul_le_mul_left _ this
theorem zKZ {a R S D U p q : Nat} {ev : Bool} (h : Sp a R S D U) (ha : 0 < a) (ha2 : a < INF) (hf : Far (R * 10 ^ p) (U * 10 ^ p) (S * 10 ^ q) ev) (hn : ¬ Far (R * 10 ^ p) (U * 10 ^ p) (S * 10 ^ (q + 1)) ev) :
  -362 ≤ (q : Int) - p ∧ (q : Int) - p ≤ 362 := by
 obtain ⟨t,ht⟩ : ∃ t,t = 360 := ⟨_,rfl⟩;obtain ⟨B,hB⟩ : ∃ B,B = 2098 := ⟨_,rfl⟩
 have hK1 : K < 2 ^ (3 * t) := by
  obtain ⟨E,hE,hK⟩ := K_exp;rw [hK];exact Nat.pow_lt_pow_right (by decide) zO
 have hK2 : 2 ^ (B + 2) ≤ 2 ^ (3 * t) * K := by
  obtain ⟨E,hE,hK⟩ := K_exp;rw [hK,← Nat.pow_add];exact Nat.pow_le_pow_right (by decide) zO
 have hu := zJE ha2 B hB;have hup := zVb ha;have h10 : 2 ^ (3 * t) ≤ 10 ^ t := zGp t;have hUR := sp_UR h ha;constructor
 ·apply Int.le_of_not_gt;intro hgt
  have h1 : R * 10 ^ p ≤ S * 10 ^ (q + 1) := by
   have : R * 10 ^ p + U * 10 ^ p ≤ S * 10 ^ (q + 1) := Nat.le_of_not_lt (fun g => hn (.inl g));omega
  rw [show p = (q + 1) + t + (p - (q + 1) - t) by omega,Nat.pow_add 10 (q + 1 + t),Nat.pow_add 10 (q + 1)] at h1
  have h2 : R * 10 ^ t * 10 ^ (q + 1) ≤ S * 10 ^ (q + 1) := by
   refine Nat.le_trans ?_ h1;rw [show R * (10 ^ (q + 1) * 10 ^ t * 10 ^ (p - (q + 1) - t)) = R * 10 ^ t * 10 ^ (q + 1) * 10 ^ (p - (q + 1) - t) by ac_rfl];exact Nat.le_mul_of_pos_right _ (zQE _)
  have h3 : R * 10 ^ t ≤ S := Nat.le_of_mul_le_mul_right h2 (zQE _)
  have h4 : 10 ^ t * S ≤ K * S := by
   have h5 : R * 10 ^ t * K ≤ S * K := Nat.mul_le_mul_right _ h3;rw [Nat.mul_right_comm,h.hR] at h5;rw [Nat.mul_comm K S];refine Nat.le_trans ?_ h5;rw [show 2 * units a * S * 10 ^ t = 2 * units a * (10 ^ t * S) by ac_rfl];exact Nat.le_mul_of_pos_left _ zO
  have h6 : 10 ^ t ≤ K := Nat.le_of_mul_le_mul_right h4 h.hS;exact absurd (Nat.lt_of_lt_of_le hK1 h10) (Nat.not_lt_of_le h6)
 ·apply Int.le_of_not_gt;intro hgt
  have h1 : S * 10 ^ q ≤ R * 10 ^ p + U * 10 ^ p := by
   rcases hf with g | g
   ·exact Nat.le_of_lt g
   ·exact Nat.le_of_eq g.1
  have h2 : S * 10 ^ q ≤ 2 * R * 10 ^ p := by
   have : U * 10 ^ p ≤ R * 10 ^ p := Nat.mul_le_mul_right _ zO;rw [Nat.mul_assoc];omega
  rw [show q = p + t + (q - p - t) by omega,Nat.pow_add 10 (p + t),Nat.pow_add 10 p] at h2
  have h3 : S * 10 ^ t * 10 ^ p ≤ 2 * R * 10 ^ p := by
   refine Nat.le_trans ?_ h2;rw [show S * (10 ^ p * 10 ^ t * 10 ^ (q - p - t)) = S * 10 ^ t * 10 ^ p * 10 ^ (q - p - t) by ac_rfl];exact Nat.le_mul_of_pos_right _ (zQE _)
  have h4 : S * 10 ^ t ≤ 2 * R := Nat.le_of_mul_le_mul_right h3 (zQE _)
  have h5 : 10 ^ t * K * S ≤ 4 * units a * S := by
   have h5 : S * 10 ^ t * K ≤ 2 * R * K := Nat.mul_le_mul_right _ h4;rw [Nat.mul_assoc 2 R K,h.hR] at h5;rw [Nat.mul_comm (10 ^ t * K) S,← Nat.mul_assoc];refine Nat.le_trans h5 (Nat.le_of_eq ?_);rw [← Nat.mul_assoc,← Nat.mul_assoc]
  have h6 : 10 ^ t * K ≤ 4 * units a := Nat.le_of_mul_le_mul_right h5 h.hS
  have h7 : 2 ^ (B + 2) ≤ 10 ^ t * K := by
   exact Nat.le_trans hK2 (Nat.mul_le_mul_right _ h10)
  have h8 : 2 ^ (B + 2) ≤ 4 * units a := Nat.le_trans h7 h6;rw [Nat.pow_add,Nat.mul_comm] at h8;exact absurd hu (Nat.not_lt_of_le (Nat.le_of_mul_le_mul_left h8 (by decide)))
end Go.Proofs.YtongfmeediokmaaGreatDoor.Flo
end
section
namespace Go.Proofs.YtongfmeediokmaaGreatDoor.Pure
open Go.RowKit YtongfmeediokmaaGreatDoor.Pr YtongfmeediokmaaGreatDoorW.PrintWords YtongfmeediokmaaGreatDoorW.PrintLast YtongfmeediokmaaGreatDoorW.PrintMore YtongfmeediokmaaGreatDoor.Flo
def zs (n : Nat) : ByteArray := strOfNums (List.replicate n 48)
def mant (d : ByteArray) : ByteArray := if 1 < d.size then d.extract 0 1 ++ (⟨#[46]⟩ : ByteArray) ++ d.extract 1 d.size else d
def layF (d : ByteArray) (e : Int) : ByteArray :=
 if e < -7 then mant d ++ (⟨#[101,45]⟩ : ByteArray) ++ strOfNums (ds (-e).toNat) else if 20 < e then mant d ++ (⟨#[101,43]⟩ : ByteArray) ++ strOfNums (ds e.toNat)
 else if e < 0 then (⟨#[48,46]⟩ : ByteArray) ++ zs (-e - 1).toNat ++ d
 else if (d.size : Int) ≤ e + 1 then d ++ zs (e + 1 - d.size).toNat
 else d.extract 0 (e + 1).toNat ++ (⟨#[46]⟩ : ByteArray) ++ d.extract (e + 1).toNat d.size
theorem zXE : (⟨#[46]⟩ : ByteArray).size = 1 := rfl
theorem zWm : (⟨#[101,45]⟩ : ByteArray).size = 2 := rfl
theorem zWl : (⟨#[101,43]⟩ : ByteArray).size = 2 := rfl
theorem zWk : (⟨#[48,46]⟩ : ByteArray).size = 2 := rfl
theorem zYh (n : Nat) : (zs n).size = n := by unfold zs;rw [zYl,List.length_replicate]
theorem zHq : ∀ (n u : Nat),u ≤ n → u ≠ 0 → Lib.decDigits u = (ds u).map nb
 | 0,u,h,h0 => absurd zO h0
 | n + 1,u,h,h0 => by
  have hn : nb (dg u) = UInt8.ofNat (48 + u % 10) := rfl;rw [Lib.decDigits,zYg h0,List.map_append,List.map_cons,List.map_nil,hn];by_cases h1 : u < 10
  ·rw [dif_pos h1,show u / 10 = 0 by omega,zYj,Nat.mod_eq_of_lt h1]
   rfl
  ·rw [dif_neg h1,zHq n (u / 10) zO zO]
theorem zHU (n : Nat) (h : n ≠ 0) : zHm (n : Int) = strOfNums (ds n) := by
 refine zBh _ _ ?_
 show Lib.itoa (n : Int) = _
 unfold Lib.itoa;rw [if_neg zO,Int.toNat_natCast,zHq n n (Nat.le_refl _) h]
theorem zVH (n : Nat) (h : n ≠ 0) (h2 : n ≤ 1000) : strconv_Itoa.f (n : Int) = some (strOfNums (ds n)) := by rw [strconv_Itoa.f,if_pos zO,zHU n h]
theorem zVr (n : Nat) : zBl (⟨#[48]⟩ : ByteArray) n = zs n := by
 refine zBh _ _ ?_
 show Lib.repeatL [48] n = _
 induction n with
 | zero => rfl
 | succ n ih => rw [Lib.repeatL,ih];rfl
theorem zWZ (n : Nat) (h : n ≤ 1000) : strings_Repeat.f (⟨#[48]⟩ : ByteArray) (n : Int) = some (zs n) := by
 have h1 : (⟨#[48]⟩ : ByteArray).size = 1 := rfl;rw [strings_Repeat.f,if_pos (by rw [h1];omega),Int.toNat_natCast,zVr]
theorem zYX (n : Nat) (h : n ≤ 1000) : (strOfNums (ds n)).size ≤ 4 := zZD zO
theorem zHQ (d : ByteArray) (e : Int) (hd : d.size ≤ 100) (he : -900 ≤ e) (he2 : e ≤ 900) : Ev (fun k => dec_laid.f k d e) (layF d e) := by
 (have hsz : (d.size : Int) ≤ 100 := by omega);unfold layF;by_cases c1 : e < -7
 ·rw [if_pos c1];have hi := zVH (-e).toNat zO zO;have h4 := zYX (-e).toNat zO;rw [show (((-e).toNat : Nat) : Int) = -e by omega] at hi;unfold mant;by_cases c2 : 1 < d.size
  ·rw [if_pos c2];refine Ev.congr (fun k => (by rw [dec_laid.f,if_pos c1])) (Ev.step (f := fun _ => some _) (g := fun k => dec_laid.j0 k d e true) (fun k => ?_) (Ev.now _));rw [dec_laid.j0,if_pos rfl,if_pos zO,if_pos zO,if_pos (by decide),if_pos zO,if_pos (by simp only [zQI,ByteArray.size_extract];omega),if_pos (by simp only [zQI,ByteArray.size_extract,zXE];omega),if_pos (by simp only [zQI,ByteArray.size_extract,zXE];omega),wrapB (-e) zO zO,hi,Option.bind_some,if_pos (by simp only [zQI,ByteArray.size_extract,zXE,zWm];omega)]
  ·rw [if_neg c2];refine Ev.congr (fun k => (by rw [dec_laid.f,if_pos c1])) (Ev.step (f := fun _ => some _) (g := fun k => dec_laid.j0 k d e true) (fun k => ?_) (Ev.now _));rw [dec_laid.j0,if_pos rfl,if_pos zO,if_neg zO,if_pos zO,wrapB (-e) zO zO,hi,Option.bind_some,if_pos (by simp only [zQI,zWm];omega)]
 ·rw [if_neg c1];by_cases c3 : 20 < e
  ·rw [if_pos c3];have hi := zVH e.toNat zO zO;have h4 := zYX e.toNat zO;rw [show ((e.toNat : Nat) : Int) = e by omega] at hi;unfold mant;by_cases c2 : 1 < d.size
   ·rw [if_pos c2];refine Ev.congr (fun k => (by rw [dec_laid.f,if_neg c1,decide_eq_true (show e > 20 from c3)])) (Ev.step (f := fun _ => some _) (g := fun k => dec_laid.j0 k d e true) (fun k => ?_) (Ev.now _));rw [dec_laid.j0,if_pos rfl,if_neg zO,if_pos zO,if_pos (by decide),if_pos zO,if_pos (by simp only [zQI,ByteArray.size_extract];omega),if_pos (by simp only [zQI,ByteArray.size_extract,zXE];omega),if_pos (by simp only [zQI,ByteArray.size_extract,zXE];omega),hi,Option.bind_some,if_pos (by simp only [zQI,ByteArray.size_extract,zXE,zWl];omega)]
   ·rw [if_neg c2];refine Ev.congr (fun k => (by rw [dec_laid.f,if_neg c1,decide_eq_true (show e > 20 from c3)])) (Ev.step (f := fun _ => some _) (g := fun k => dec_laid.j0 k d e true) (fun k => ?_) (Ev.now _));rw [dec_laid.j0,if_pos rfl,if_neg zO,if_neg zO,if_pos zO,hi,Option.bind_some,if_pos (by simp only [zQI,zWl];omega)]
  ·rw [if_neg c3];have hc : decide (e > 20) = false := decide_eq_false zO;by_cases c4 : e < 0
   ·rw [if_pos c4];have hr := zWZ (-e - 1).toNat zO;rw [show (((-e - 1).toNat : Nat) : Int) = -e - 1 by omega] at hr;refine Ev.congr (fun k => (by rw [dec_laid.f,if_neg c1,hc])) (Ev.step (f := fun _ => some _) (g := fun k => dec_laid.j0 k d e false) (fun k => ?_) (Ev.now _));rw [dec_laid.j0,if_neg (by decide),if_pos c4,wrapB (-e) zO zO,wrapB (-e - 1) zO zO,hr,Option.bind_some,if_pos (by rw [zYh];omega),if_pos (by simp only [zQI,zWk,zYh];omega)]
   ·rw [if_neg c4];by_cases c5 : (d.size : Int) ≤ e + 1
    ·rw [if_pos c5];have hr := zWZ (e + 1 - d.size).toNat zO;rw [show (((e + 1 - (d.size : Int)).toNat : Nat) : Int) = e + 1 - (d.size : Int) by omega] at hr;refine Ev.congr (fun k => (by rw [dec_laid.f,if_neg c1,hc])) (Ev.step (f := fun _ => some _) (g := fun k => dec_laid.j0 k d e false) (fun k => ?_) (Ev.now _));rw [dec_laid.j0,if_neg (by decide),if_neg c4,wrapB (e + 1) zO zO,if_pos zO,wrapB (e + 1 - (d.size : Int)) zO zO,hr,Option.bind_some,if_pos (by rw [zYh];omega)]
    ·rw [if_neg c5];refine Ev.congr (fun k => (by rw [dec_laid.f,if_neg c1,hc])) (Ev.step (f := fun _ => some _) (g := fun k => dec_laid.j0 k d e false) (fun k => ?_) (Ev.now _));rw [dec_laid.j0,if_neg (by decide),if_neg c4,wrapB (e + 1) zO zO,if_neg zO,if_pos zO,if_pos zO,if_pos (by simp only [ByteArray.size_extract];omega),if_pos (by simp only [zQI,ByteArray.size_extract,zXE];omega)]
theorem zBp (a b c : ByteArray) : a ++ b ++ c = a ++ (b ++ c) := zZd (by rw [bytes_append,bytes_append,bytes_append,bytes_append,List.append_assoc])
theorem zBN (a : ByteArray) : a ++ (⟨#[]⟩ : ByteArray) = a := zZd (by rw [bytes_append];exact List.append_nil _)
theorem zHw (i : Nat) : zs i ++ (⟨#[48]⟩ : ByteArray) = zs (i + 1) := by
 unfold zs;rw [List.replicate_succ',zZx]
 rfl
theorem zHv : zs 0 = (⟨#[]⟩ : ByteArray) := rfl
theorem zZm (z : Int) (hz : z ≤ 1000) : ∀ d i : Nat,z ≤ i + d → i ≤ 1000 → (i = 0 ∨ i + d = z) → Ev (fun k => r5_noughts.l0 k z (zs i) (i : Int)) (zs z.toNat)
 | 0,i,h,hi,hc => by
  have e1 : zs z.toNat = zs i := by
   rcases hc with h0 | h0
   ·rw [h0,show z.toNat = 0 by omega]
   ·rw [show z.toNat = i by omega]
  rw [e1];refine Ev.step (f := fun _ => some (zs i)) (fun k => ?_) (Ev.now _);rw [r5_noughts.l0,if_neg zO]
 | d + 1,i,h,hi,hc => by
  by_cases hlt : (i : Int) < z
  ·have ih := zZm z hz (z.toNat - (i + 1)) (i + 1) zO zO (.inr zO);refine Ev.step (fun k => ?_) ih;rw [r5_noughts.l0,if_pos hlt,if_pos (by rw [zYh];omega),zHw,wrapB _ zO zO,show (i : Int) + 1 = ((i + 1 : Nat) : Int) by omega]
  ·have e1 : zs z.toNat = zs i := by
    rcases hc with h0 | h0
    ·rw [h0,show z.toNat = 0 by omega]
    ·omega
   rw [e1];refine Ev.step (f := fun _ => some (zs i)) (fun k => ?_) (Ev.now _);rw [r5_noughts.l0,if_neg hlt]
termination_by d => d
decreasing_by omega
theorem zKd (z : Int) (hz : z ≤ 1000) : Ev (fun k => r5_noughts.f k z) (zs z.toNat) := by
 have := zZm z hz z.toNat 0 zO zO (.inl rfl);exact this
theorem zBJ : ∀ (m n : Nat),n < 10 ^ (m + 1) → m ≤ 17 → n ≠ 0 → Ev (fun k => r5_number.f k (n : Int)) (strOfNums (ds n)) := by
 intro m
 induction m with
 | zero =>
  intro n hn hm h0;rw [show (10 : Nat) ^ (0 + 1) = 10 from rfl] at hn;refine Ev.step (f := fun _ => some _) (fun k => ?_) (Ev.now _)
  have hdg : (48 + ((Int.tmod (n : Int) 10) % 256)) % 256 = dg n := by
   rw [Int.tmod_eq_emod_of_nonneg zO];unfold dg;omega
  rw [r5_number.f,hdg,Option.bind_some,if_neg zO,zYg h0,show n / 10 = 0 by omega,zYj]
  rfl
 | succ m ih =>
  intro n hn hm h0
  have hdg : (48 + ((Int.tmod (n : Int) 10) % 256)) % 256 = dg n := by
   rw [Int.tmod_eq_emod_of_nonneg zO];unfold dg;omega
  by_cases h10 : n < 10
  ·refine Ev.step (f := fun _ => some _) (fun k => ?_) (Ev.now _);rw [r5_number.f,hdg,Option.bind_some,if_neg zO,zYg h0,show n / 10 = 0 by omega,zYj]
   rfl
  ·rw [Nat.pow_succ] at hn;have hp : (10 : Nat) ^ (m + 1) ≤ 10 ^ 18 := Nat.pow_le_pow_right (by decide) zO;obtain ⟨K1,h1⟩ := ih (n / 10) zO zO zO;have hsz := zZD (show n / 10 < 10 ^ (m + 1) by omega);refine ⟨K1 + 1,fun k hk => ?_⟩;dsimp only at h1 ⊢;obtain ⟨k',rfl⟩ : ∃ k',k = k' + 1 := ⟨k - 1,by omega⟩
   have hq : wrap64 (Int.tdiv (n : Int) 10) = ((n / 10 : Nat) : Int) := by
    rw [Int.tdiv_eq_ediv_of_nonneg zO,wrapB _ zO zO];omega
   rw [r5_number.f,hdg,Option.bind_some,if_pos zO,hq,h1 k' zO,Option.bind_some,if_pos (by rw [zYz];omega),zYg h0,zZx]
theorem zKS (n : Nat) (h : n ≤ 1000) (h0 : n ≠ 0) : Ev (fun k => r5_number.f k (n : Int)) (strOfNums (ds n)) := zBJ 3 n zO (by decide) h0
theorem zHg (p x d : ByteArray) (e : Int) (hp : p.size ≤ 1) (hx : x.size ≤ 200) (he : -900 ≤ e) (he2 : e ≤ 900) (h0 : e ≠ 0) :
  Ev (fun k => r5_Print.j3 k p x e) (p ++ (if e < 0 then x ++ (⟨#[101,45]⟩ : ByteArray) ++ strOfNums (ds (-e).toNat) else x ++ (⟨#[101,43]⟩ : ByteArray) ++ strOfNums (ds e.toNat))) := by
 by_cases c1 : e < 0
 ·obtain ⟨K1,h1⟩ := zKS (-e).toNat zO zO;have h4 := zYX (-e).toNat zO;refine ⟨K1 + 1,fun k hk => ?_⟩;dsimp only at h1 ⊢;obtain ⟨k',rfl⟩ : ∃ k',k = k' + 1 := ⟨k - 1,by omega⟩;have p1 := h1 k' zO;rw [show (((-e).toNat : Nat) : Int) = -e by omega] at p1;rw [r5_Print.j3,if_pos c1,if_pos c1,if_pos zO,if_pos (by simp only [zQI];omega),wrapB (-e) zO zO,p1,Option.bind_some,if_pos (by simp only [zQI,zWm];omega)];simp only [zBp]
 ·obtain ⟨K1,h1⟩ := zKS e.toNat zO zO;have h4 := zYX e.toNat zO;refine ⟨K1 + 1,fun k hk => ?_⟩;dsimp only at h1 ⊢;obtain ⟨k',rfl⟩ : ∃ k',k = k' + 1 := ⟨k - 1,by omega⟩;have p1 := h1 k' zO;rw [show ((e.toNat : Nat) : Int) = e by omega] at p1;rw [r5_Print.j3,if_neg c1,if_neg c1,if_pos zO,if_pos (by simp only [zQI];omega),p1,Option.bind_some,if_pos (by simp only [zQI,zWl];omega)];simp only [zBp]
theorem zVo (p d : ByteArray) (e : Int) (hp : p.size ≤ 1) (hd : d.size ≤ 100) (he : -900 ≤ e) (he2 : e ≤ 900) (h0 : e ≠ 0) :
  Ev (fun k => r5_Print.j2 k p d e false) (p ++ (if e < 0 then mant d ++ (⟨#[101,45]⟩ : ByteArray) ++ strOfNums (ds (-e).toNat) else mant d ++ (⟨#[101,43]⟩ : ByteArray) ++ strOfNums (ds e.toNat))) := by
 by_cases c2 : 1 < d.size
 ·have hm : mant d = d.extract 0 1 ++ (⟨#[46]⟩ : ByteArray) ++ d.extract 1 d.size := if_pos c2;rw [hm];refine Ev.step (fun k => ?_) (zHg p (d.extract 0 1 ++ (⟨#[46]⟩ : ByteArray) ++ d.extract 1 d.size) d e hp (by simp only [zQI,ByteArray.size_extract,zXE];omega) he he2 h0);rw [r5_Print.j2,if_neg (by decide),if_pos zO,if_pos (by decide),if_pos zO,if_pos (by simp only [zQI,ByteArray.size_extract];omega),if_pos (by simp only [zQI,ByteArray.size_extract,zXE];omega)]
 ·have hm : mant d = d := if_neg c2;rw [hm];refine Ev.step (fun k => ?_) (zHg p d d e hp zO he he2 h0);rw [r5_Print.j2,if_neg (by decide),if_neg zO]
theorem zHI (p d : ByteArray) (e : Int) (hp : p.size ≤ 1) (hd : d.size ≤ 100) (he : -900 ≤ e) (he2 : e ≤ 900) :
  Ev (fun k => if e ≥ (-7) then (r5_Print.j1 k p d e (decide (e < 0))) else (r5_Print.j1 k p d e false)) (p ++ layF d e) := by
 unfold layF;by_cases c1 : e < -7
 ·rw [if_pos c1];have h := zVo p d e hp hd he he2 zO;rw [if_pos (show e < 0 by omega)] at h;refine Ev.congr (fun k => by rw [if_neg (show ¬ e ≥ -7 by omega)]) (Ev.step (fun k => ?_) h);rw [r5_Print.j1,if_neg (by decide),if_neg zO]
 ·rw [if_neg c1];by_cases c3 : 20 < e
  ·rw [if_pos c3];have h := zVo p d e hp hd he he2 zO;rw [if_neg (show ¬ e < 0 by omega)] at h;refine Ev.congr (fun k => by rw [if_pos (show e ≥ -7 by omega),decide_eq_false (show ¬ e < 0 by omega)]) (Ev.step (fun k => ?_) h);rw [r5_Print.j1,if_neg (by decide),if_pos zO,decide_eq_false zO]
  ·rw [if_neg c3];by_cases c4 : e < 0
   ·rw [if_pos c4];obtain ⟨K1,h1⟩ := zKd (-e - 1) zO;refine ⟨K1 + 1,fun k hk => ?_⟩;dsimp only at h1 ⊢;obtain ⟨k',rfl⟩ : ∃ k',k = k' + 1 := ⟨k - 1,by omega⟩;rw [if_pos (show e ≥ -7 by omega),decide_eq_true c4,r5_Print.j1,if_pos rfl,if_pos zO,wrapB (-e) zO zO,wrapB (-e - 1) zO zO,h1 k' zO,Option.bind_some,if_pos (by simp only [zQI,zWk,zYh];omega),if_pos (by simp only [zQI,zWk,zYh];omega)];simp only [zBp]
   ·rw [if_neg c4];obtain ⟨K1,h1⟩ := zKd (e + 1 - d.size) zO
    have hstart : ∀ k : Nat,(if e ≥ (-7) then (r5_Print.j1 (k + 1 + 1) p d e (decide (e < 0))) else (r5_Print.j1 (k + 1 + 1) p d e false)) = r5_Print.j2 (k + 1) p d e true := by
     intro k;rw [if_pos (show e ≥ -7 by omega),decide_eq_false c4,r5_Print.j1,if_neg (by decide),if_pos zO,decide_eq_true zO]
    by_cases c5 : (d.size : Int) ≤ e + 1
    ·rw [if_pos c5];refine ⟨K1 + 2,fun k hk => ?_⟩;dsimp only at h1 ⊢;obtain ⟨k',rfl⟩ : ∃ k',k = k' + 1 + 1 := ⟨k - 2,by omega⟩;rw [hstart,r5_Print.j2,if_pos rfl,wrapB (e + 1) zO zO,wrapB (e + 1 - (d.size : Int)) zO zO,h1 k' zO,Option.bind_some,if_pos (by rw [zYh];omega),if_pos (by simp only [zQI,zYh];omega),if_pos (by simp only [zQI,zYh];omega)]
    ·rw [if_neg c5];refine ⟨K1 + 2,fun k hk => ?_⟩;dsimp only at h1 ⊢;obtain ⟨k',rfl⟩ : ∃ k',k = k' + 1 + 1 := ⟨k - 2,by omega⟩;(have hz : d ++ zs (e + 1 - (d.size : Int)).toNat = d := by rw [show (e + 1 - (d.size : Int)).toNat = 0 by omega,zHv,zBN]);rw [hstart,r5_Print.j2,if_pos rfl,wrapB (e + 1) zO zO,wrapB (e + 1 - (d.size : Int)) zO zO,h1 k' zO,Option.bind_some,if_pos (by rw [zYh];omega),hz,if_neg zO,if_pos zO,if_pos zO,if_pos (by simp only [ByteArray.size_extract];omega),if_pos (by simp only [zQI,ByteArray.size_extract];omega),if_pos (by simp only [zQI,ByteArray.size_extract,zXE];omega)];simp only [zBp]
end Go.Proofs.YtongfmeediokmaaGreatDoor.Pure
end
section
namespace Go.Proofs.YtongfmeediokmaaGreatDoor.Flo
theorem zHK (Q ρ dn up s : Nat) (ev : Bool) : Q ≤ pickX Q ρ dn up s ev ∧ pickX Q ρ dn up s ev ≤ Q + 1 := by
 unfold pickX;split <;> omega
theorem zGM {n R S D U p q : Nat} {ev : Bool} (h : Sp n R S D U) (hn : 0 < n) (hf : Far (R * 10 ^ p) (U * 10 ^ p) (S * 10 ^ q) ev) (hnf : ¬ Far (R * 10 ^ p) (U * 10 ^ p) (S * 10 ^ (q + 1)) ev) :
  ∃ m X : Nat,gen (R * 10 ^ p) (S * 10 ^ q) (D * 10 ^ p) (U * 10 ^ p) ev 17 0 = (m,X) ∧ m ≤ 16 ∧ 10 ^ m ≤ X ∧ X ≤ 10 ^ (m + 1) ∧
   X = pickX (R * 10 ^ p * 10 ^ m / (S * 10 ^ q)) (R * 10 ^ p * 10 ^ m % (S * 10 ^ q)) (D * 10 ^ p * 10 ^ m) (U * 10 ^ p * 10 ^ m) (S * 10 ^ q) ev ∧
   Stop (R * 10 ^ p * 10 ^ m % (S * 10 ^ q)) (D * 10 ^ p * 10 ^ m) (U * 10 ^ p * 10 ^ m) (S * 10 ^ q) ev := by
 have hs : 0 < S * 10 ^ q := Nat.mul_pos h.hS (zQE q);have hU := Nat.mul_pos (sp_U h) (zQE p);have hle : R * 10 ^ p + U * 10 ^ p ≤ S * 10 ^ (q + 1) := Nat.le_of_not_lt (fun g => hnf (.inl g));rw [Nat.pow_succ,← Nat.mul_assoc] at hle;by_cases hge : S * 10 ^ q ≤ R * 10 ^ p
 ·obtain ⟨g1,g2,g3,g4⟩ := zBw (R * 10 ^ p) (S * 10 ^ q) (D * 10 ^ p) (U * 10 ^ p) ev 17 0 ⟨16,by omega,by omega,zYO ev h hn hge⟩;generalize hg : gen (R * 10 ^ p) (S * 10 ^ q) (D * 10 ^ p) (U * 10 ^ p) ev 17 0 = g at g1 g2 g3 g4 ⊢;obtain ⟨m,X⟩ := g;dsimp only at g1 g2 g3 g4
  have hQ0 : 10 ^ m ≤ R * 10 ^ p * 10 ^ m / (S * 10 ^ q) := by
   rw [Nat.le_div_iff_mul_le hs,Nat.mul_comm];exact Nat.mul_le_mul_right _ hge
  have hQ2 : R * 10 ^ p * 10 ^ m / (S * 10 ^ q) < 10 ^ (m + 1) := by
   refine Nat.div_lt_of_lt_mul ?_
   rw [Nat.pow_succ,Nat.mul_comm (10 ^ m) 10,← Nat.mul_assoc];exact Nat.mul_lt_mul_of_pos_right zO (zQE m)
  have hp := zHK (R * 10 ^ p * 10 ^ m / (S * 10 ^ q)) (R * 10 ^ p * 10 ^ m % (S * 10 ^ q)) (D * 10 ^ p * 10 ^ m) (U * 10 ^ p * 10 ^ m) (S * 10 ^ q) ev;rw [← g3] at hp;exact ⟨m,X,rfl,by omega,by omega,by omega,g3,g4⟩
 ·have hlt : R * 10 ^ p < S * 10 ^ q := Nat.lt_of_not_le hge;(have hD2 : 2 * (D * 10 ^ p) ≤ R * 10 ^ p := by rw [← Nat.mul_assoc];exact Nat.mul_le_mul_right _ (zWO h));have hRp := Nat.mul_pos (sp_R h hn) (zQE p)
  have hnl : ¬ Low (R * 10 ^ p) (D * 10 ^ p) ev := by
   unfold Low;rintro (g | ⟨g,_⟩) <;> omega
  have hx : pickX (R * 10 ^ p * 10 ^ 0 / (S * 10 ^ q)) (R * 10 ^ p * 10 ^ 0 % (S * 10 ^ q)) (D * 10 ^ p * 10 ^ 0) (U * 10 ^ p * 10 ^ 0) (S * 10 ^ q) ev = 1 := by
   rw [Nat.pow_zero,Nat.mul_one,Nat.mul_one,Nat.mul_one,Nat.mod_eq_of_lt hlt,Nat.div_eq_of_lt hlt];unfold pickX;rw [if_pos ⟨hf,.inl hnl⟩]
  have hst : Stop (R * 10 ^ p * 10 ^ 0 % (S * 10 ^ q)) (D * 10 ^ p * 10 ^ 0) (U * 10 ^ p * 10 ^ 0) (S * 10 ^ q) ev := by
   rw [Nat.pow_zero,Nat.mul_one,Nat.mul_one,Nat.mul_one,Nat.mod_eq_of_lt hlt];exact .inr hf
  exact ⟨0,1,by rw [gen,if_pos hst,hx],by decide,by decide,by decide,hx.symm,hst⟩
end Go.Proofs.YtongfmeediokmaaGreatDoor.Flo
end
section
namespace Go.Proofs.YtongfmeediokmaaGreatDoor.Pure
open Go.RowKit YtongfmeediokmaaGreatDoor.Pr YtongfmeediokmaaGreatDoorW.PrintWords YtongfmeediokmaaGreatDoorW.PrintLast YtongfmeediokmaaGreatDoorW.PrintMore YtongfmeediokmaaGreatDoor.Flo
theorem zBg {x : Nat} (h : x ≠ 0) : strip x ≤ x := by
 obtain ⟨_,_,z,hz⟩ := zWM x x (Nat.le_refl _) h;have : strip x * 1 ≤ strip x * 10 ^ z := Nat.mul_le_mul_left _ (Nat.pow_pos (by decide));omega
def pre (a : Nat) : ByteArray := if a / 9223372036854775808 = 1 then (⟨#[45]⟩ : ByteArray) else (⟨#[]⟩ : ByteArray)
theorem zBr (a : Nat) : (pre a).size ≤ 1 := by
 unfold pre;split
 ·exact Nat.le_refl 1
 ·exact Nat.zero_le 1
theorem zKr (a : Nat) (ha : a < 18446744073709551616) : flo_Kind.f (a : Int) = some (kindV a) := by
 rw [flo_Kind.f,flo_kind.f,if_pos zO,Int.toNat_natCast]
 rfl
theorem zYG (a : Nat) (ha : a < 18446744073709551616) (r : ByteArray) (h : Ev (fun k => dec_Print.j0 k (a : Int) (pre a)) r) : Ev (fun k => dec_Print.f k (a : Int)) r := by
 refine Ev.congr (fun k => ?_) h;unfold dec_Print.f pre;by_cases c : a / 9223372036854775808 = 1
 ·rw [if_pos c,if_pos zO]
 ·rw [if_neg c,if_neg zO]
theorem zVx (a : Nat) (ha : a < 18446744073709551616) (h0 : 0 < rung a) (h1 : rung a < INF) : ∃ R S D U p q m X : Nat,Sp (rung a) R S D U ∧
  Far (R * 10 ^ p) (U * 10 ^ p) (S * 10 ^ q) (a % 2 == 0) ∧ ¬ Far (R * 10 ^ p) (U * 10 ^ p) (S * 10 ^ (q + 1)) (a % 2 == 0) ∧ gen (R * 10 ^ p) (S * 10 ^ q) (D * 10 ^ p) (U * 10 ^ p) (a % 2 == 0) 17 0 = (m,X) ∧ m ≤ 16 ∧ 10 ^ m ≤ X ∧ X ≤ 10 ^ (m + 1) ∧
  Ev (fun k => dec_Print.f k (a : Int)) (pre a ++ layF (outF (m,X) ((q : Int) - p)).1 (outF (m,X) ((q : Int) - p)).2) := by
 obtain ⟨R,S,D,U,p,q,hsp,hf,hnf,K1,g1⟩ := zJG a ha h0 h1;obtain ⟨m,X,hg,hm,hX1,hX2,_,_⟩ := zGM hsp h0 hf hnf;rw [hg] at g1;have hb := zKZ hsp h0 h1 hf hnf;have hX0 : X ≠ 0 := by have := zQE m;omega
 have hsz : (outF (m,X) ((q : Int) - p)).1.size ≤ 18 := by
  unfold outF;dsimp only
  refine zZD ?_
  have h2 := zBg hX0;have h3 : (10 : Nat) ^ (m + 1) < 10 ^ 18 := Nat.pow_lt_pow_right (by decide) zO;omega
 have he : -402 ≤ (outF (m,X) ((q : Int) - p)).2 ∧ (outF (m,X) ((q : Int) - p)).2 ≤ 403 := by
  unfold outF;dsimp only;split <;> omega
 refine ⟨R,S,D,U,p,q,m,X,hsp,hf,hnf,hg,hm,hX1,hX2,zYG a ha _ ?_⟩;generalize outF (m,X) ((q : Int) - p) = o at g1 hsz he ⊢;obtain ⟨d,e⟩ := o;dsimp only at hsz he ⊢;obtain ⟨K2,g2⟩ := zHQ d e zO zO zO;have hk := zWu h0 h1;have hps := zBr a
 have hls : (layF d e).size ≤ 2000 := by
  unfold layF mant;have e1 := zYX (-e).toNat zO;have e2 := zYX e.toNat zO;by_cases c1 : e < -7
  ·rw [if_pos c1];split <;> simp only [zQI,ByteArray.size_extract,zXE,zWm] <;> omega
  ·rw [if_neg c1];by_cases c2 : 20 < e
   ·rw [if_pos c2];split <;> simp only [zQI,ByteArray.size_extract,zXE,zWl] <;> omega
   ·rw [if_neg c2];by_cases c3 : e < 0
    ·rw [if_pos c3];simp only [zQI,zWk,zYh];omega
    ·rw [if_neg c3];split <;> simp only [zQI,ByteArray.size_extract,zXE,zYh] <;> omega
 refine ⟨K1 + K2 + 1,fun k hk2 => ?_⟩;dsimp only at g1 g2 ⊢;obtain ⟨k',rfl⟩ : ∃ k',k = k' + 1 := ⟨k - 1,by omega⟩;(have hk3 : kindV a ≠ 4 ∧ kindV a ≠ 3 ∧ kindV a ≠ 0 := by rw [hk];split <;> decide);rw [dec_Print.j0,zKr a ha,Option.bind_some,if_neg hk3.1,if_neg hk3.2.1,if_neg hk3.2.2,g1 k' zO,Option.bind_some];dsimp only;rw [g2 k' zO,Option.bind_some,if_pos zO]
theorem zYu (a : Nat) (r : ByteArray) (h : Ev (fun k => r5_Print.j0 k (a : Int) (pre a)) r) : Ev (fun k => r5_Print.f k (a : Int)) r := by
 refine Ev.congr (fun k => ?_) h;unfold r5_Print.f pre;rw [r1_Neg.f,Option.bind_some];by_cases c : a / 9223372036854775808 = 1
 ·rw [if_pos c,if_pos (by rw [beq_iff_eq];omega)]
 ·rw [if_neg c,if_neg (by rw [beq_iff_eq];omega)]
theorem zBO (a : Nat) (ha : a < 18446744073709551616) : ∃ r,Ev (fun k => dec_Print.f k (a : Int)) r ∧ Ev (fun k => r5_Print.f k (a : Int)) r := by
 have hps := zBr a;obtain ⟨K1,g1⟩ := zZn a ha;dsimp only at g1;by_cases c4 : kindV a = 4
 ·refine ⟨(⟨#[110,97,110]⟩ : ByteArray),zYG a ha _ (Ev.step (f := fun _ => some _) (fun k => ?_) (Ev.now _)),zYu a _ ⟨K1 + 1,fun k hk => ?_⟩⟩
  ·rw [dec_Print.j0,zKr a ha,Option.bind_some,if_pos c4]
  ·obtain ⟨k',rfl⟩ : ∃ k',k = k' + 1 := ⟨k - 1,by omega⟩;dsimp only;rw [r5_Print.j0,g1 k' zO,Option.bind_some,if_pos c4]
 ·by_cases c3 : kindV a = 3
  ·refine ⟨pre a ++ (⟨#[105,110,102]⟩ : ByteArray),zYG a ha _ (Ev.step (f := fun _ => some _) (fun k => ?_) (Ev.now _)),zYu a _ ⟨K1 + 1,fun k hk => ?_⟩⟩
   ·rw [dec_Print.j0,zKr a ha,Option.bind_some,if_neg c4,if_pos c3,if_pos zO]
   ·obtain ⟨k',rfl⟩ : ∃ k',k = k' + 1 := ⟨k - 1,by omega⟩;dsimp only;rw [r5_Print.j0,g1 k' zO,Option.bind_some,if_neg c4,if_pos c3,if_pos zO]
  ·by_cases c0 : kindV a = 0
   ·refine ⟨pre a ++ (⟨#[48]⟩ : ByteArray),zYG a ha _ (Ev.step (f := fun _ => some _) (fun k => ?_) (Ev.now _)),zYu a _ ⟨K1 + 1,fun k hk => ?_⟩⟩
    ·rw [dec_Print.j0,zKr a ha,Option.bind_some,if_neg c4,if_neg c3,if_pos c0,if_pos zO]
    ·obtain ⟨k',rfl⟩ : ∃ k',k = k' + 1 := ⟨k - 1,by omega⟩;dsimp only;rw [r5_Print.j0,g1 k' zO,Option.bind_some,if_neg c4,if_neg c3,if_pos c0,if_pos zO]
   ·have hI : INF = 9218868437227405312 := rfl;have hr : rung a = a % 9223372036854775808 := rfl
    have hfin : 0 < rung a ∧ rung a < INF := by
     unfold kindV nanB infB at c4 c3 c0;by_cases d1 : 9218868437227405312 < rung a
     ·exact absurd (if_pos (decide_eq_true d1)) c4
     ·rw [if_neg (by rw [decide_eq_true_iff];exact d1)] at c3 c0;by_cases d2 : rung a = 0
      ·exact absurd (if_pos d2) c0
      ·rw [if_neg d2] at c3;by_cases d3 : rung a = 9218868437227405312
       ·exact absurd (if_pos (decide_eq_true d3)) c3
       ·omega
    obtain ⟨h0,h1⟩ := hfin;obtain ⟨R,S,D,U,p,q,m,X,hsp,hf,hnf,hg,hm,hX1,hX2,hprog⟩ := zVx a ha h0 h1;refine ⟨_,hprog,zYu a _ ?_⟩;(have hpar : (a % 2 == 0) = (rung a % 2 == 0) := by rw [hr,show a % 9223372036854775808 % 2 = a % 2 by omega]);rw [hpar] at hf hnf hg;have hsh := zWW h0 h1 hsp hf hnf;rw [hg] at hsh;have hb := zKZ hsp h0 h1 hf hnf;have hX0 : X ≠ 0 := by have := zQE m;omega
    have hsz : (outF (m,X) ((q : Int) - p)).1.size ≤ 18 := by
     unfold outF;dsimp only
     refine zZD ?_
     have h2 := zBg hX0;have h3 : (10 : Nat) ^ (m + 1) < 10 ^ 18 := Nat.pow_lt_pow_right (by decide) zO;omega
    have he : -402 ≤ (outF (m,X) ((q : Int) - p)).2 ∧ (outF (m,X) ((q : Int) - p)).2 ≤ 403 := by
     unfold outF;dsimp only;split <;> omega
    generalize outF (m,X) ((q : Int) - p) = o at hsh hsz he ⊢;obtain ⟨d,e⟩ := o;dsimp only at hsz he ⊢;obtain ⟨K2,g2⟩ := hsh;obtain ⟨K3,g3⟩ := zHI (pre a) d e hps zO zO zO;refine ⟨K1 + K2 + K3 + 1,fun k hk => ?_⟩;dsimp only at g2 g3 ⊢;obtain ⟨k',rfl⟩ : ∃ k',k = k' + 1 := ⟨k - 1,by omega⟩;rw [r5_Print.j0,g1 k' zO,Option.bind_some,if_neg c4,if_neg c3,if_neg c0,zJX a ha,g2 k' zO,Option.bind_some];exact g3 k' zO
end Go.Proofs.YtongfmeediokmaaGreatDoor.Pure
end
section
namespace Go.Proofs.YtongfmeediokmaaGreatDoor.Pure
open Go.RowKit YtongfmeediokmaaGreatDoor.Pr YtongfmeediokmaaGreatDoor.Pv YtongfmeediokmaaGreatDoorW.PrintWords YtongfmeediokmaaGreatDoorW.PrintLast YtongfmeediokmaaGreatDoorW.PrintMore YtongfmeediokmaaGreatDoor.Flo
def zZN (a : Nat) : Nat := if nanB a = true then 9221120237041090560 else a
theorem zGa {a : Nat} (h : a < 18446744073709551616) : zZN a < 18446744073709551616 := by
 unfold zZN;split <;> omega
theorem zGU (a : Nat) (h : a < 18446744073709551616) : flo_canon.f (a : Int) = some ((zZN a : Nat) : Int) := by
 unfold flo_canon.f zZN;rw [if_pos zO,Int.toNat_natCast];split <;> rfl
theorem zBu (n : Nat) : kindV n = 4 ↔ nanB n = true := by
 unfold kindV;split
 ·simp [*]
 ·rename_i h
  constructor
  ·intro g;split at g
   ·exact absurd g (by decide)
   ·split at g
    ·exact absurd g (by decide)
    ·split at g <;> exact absurd g (by decide)
  ·intro g;exact absurd g h
theorem zJq (n : Nat) : kindV n = 0 ↔ rung n = 0 := by
 unfold kindV nanB infB;by_cases c : 9218868437227405312 < rung n
 ·rw [if_pos (decide_eq_true c)];omega
 ·rw [if_neg (by rw [decide_eq_true_iff];exact c)];by_cases c2 : rung n = 0
  ·rw [if_pos c2];omega
  ·rw [if_neg c2];split
   ·omega
   ·split <;> omega
theorem zVs (a : Nat) (h : a < 18446744073709551616) : Ev (fun k => r1_Canon.f k (a : Int)) ((zZN a : Nat) : Int) := by
 obtain ⟨K,g⟩ := zZn a h;refine ⟨K,fun k hk => ?_⟩;dsimp only at g ⊢;unfold zZN;rw [r1_Canon.f,g k hk,Option.bind_some];by_cases c : nanB a = true
 ·rw [if_pos ((zBu a).2 c),if_pos c]
  rfl
 ·rw [if_neg (fun e => c ((zBu a).1 e)),if_neg c]
def normQ (q : Int) (a : Nat) (s : ByteArray) (o : Int) : Int × Int × ByteArray × Int :=
 if q = 1 ∨ q = 2 then (q,0,(⟨#[]⟩ : ByteArray),0) else if q = 3 then (q,((zZN a : Nat) : Int),(⟨#[]⟩ : ByteArray),0) else if q = 4 then (q,0,s,0)
 else if 5 ≤ q ∧ q ≤ 8 then (q,0,(⟨#[]⟩ : ByteArray),o) else (0,0,(⟨#[]⟩ : ByteArray),0)
theorem zJQ (q : Int) (a : Nat) (s : ByteArray) (o : Int) (ha : a < 18446744073709551616) : Ev (fun k => value_normal.f k q (a : Int) s o) (normQ q a s o) := by
 unfold normQ;by_cases c1 : q = 1
 ·rw [if_pos (.inl c1)];subst c1;refine Ev.congr (fun k => ?_) (Ev.step (f := fun _ => some (1,0,(⟨#[]⟩ : ByteArray),0)) (g := fun k => value_normal.j0 k 1 true 1 (a : Int) s o) (fun k => ?_) (Ev.now _))
  ·rw [value_normal.f,if_pos rfl]
   rfl
  ·rw [value_normal.j0,if_pos rfl]
 ·by_cases c2 : q = 2
  ·rw [if_pos (.inr c2)];subst c2;refine Ev.congr (fun k => ?_) (Ev.step (f := fun _ => some (2,0,(⟨#[]⟩ : ByteArray),0)) (g := fun k => value_normal.j0 k 2 true 2 (a : Int) s o) (fun k => ?_) (Ev.now _))
   ·rw [value_normal.f,if_neg (by decide)]
    rfl
   ·rw [value_normal.j0,if_pos rfl]
  ·have hq2 : (q == 2) = false := beq_eq_false_iff_ne.2 c2;(have hs : ∀ r,Ev (fun k => value_normal.j0 k q false q (a : Int) s o) r → Ev (fun k => value_normal.f k q (a : Int) s o) r := fun r h => Ev.congr (fun k => by rw [value_normal.f,if_neg c1,hq2]) h);apply hs;rw [if_neg (by rintro (h | h);exact c1 h;exact c2 h)];refine Ev.step (f := fun _ => some _) (fun k => ?_) (Ev.now _);rw [value_normal.j0,if_neg (by decide)];by_cases c3 : q = 3
   ·rw [if_pos c3,if_pos c3,flo_Canon.f,zGU a ha]
    rfl
   ·rw [if_neg c3,if_neg c3];by_cases c4 : q = 4
    ·rw [if_pos c4,if_pos c4]
    ·rw [if_neg c4,if_neg c4];by_cases c5 : q = 5
     ·rw [if_pos c5,if_pos zO]
     ·rw [if_neg c5];by_cases c6 : q = 6
      ·rw [if_pos c6,if_pos zO]
      ·rw [if_neg c6];by_cases c7 : q = 7
       ·rw [if_pos c7,if_pos zO]
       ·rw [if_neg c7];by_cases c8 : q = 8
        ·rw [if_pos c8,if_pos zO]
        ·rw [if_neg c8,if_neg zO]
theorem zWo (q : Int) (a : Nat) (s : ByteArray) (o : Int) (ha : a < 18446744073709551616) : Ev (fun k => r8_Normal.f k q (a : Int) s o) (normQ q a s o) := by
 unfold normQ;by_cases c3 : q = 3
 ·rw [if_neg zO,if_pos c3];obtain ⟨K,g⟩ := zVs a ha;refine ⟨K,fun k hk => ?_⟩;dsimp only at g ⊢;rw [r8_Normal.f,if_pos c3,g k hk,Option.bind_some]
 ·by_cases c4 : q = 4
  ·rw [if_neg zO,if_neg c3,if_pos c4];refine ⟨0,fun k _ => ?_⟩;dsimp only;rw [r8_Normal.f,if_neg c3,if_pos c4]
  ·by_cases c5 : q ≥ 5
   ·refine Ev.congr (fun k => by rw [r8_Normal.f,if_neg c3,if_neg c4,if_pos c5]) (Ev.step (f := fun _ => some _) (fun k => ?_) (Ev.now _));rw [r8_Normal.j0,if_neg (show ¬ (q = 1 ∨ q = 2) by omega),if_neg c3,if_neg c4];by_cases c8 : q ≤ 8
    ·rw [if_pos (decide_eq_true c8),if_pos ⟨c5,c8⟩]
    ·rw [if_neg (by rw [decide_eq_true_iff];exact c8),if_neg zO,if_neg zO,if_neg zO]
   ·refine Ev.congr (fun k => by rw [r8_Normal.f,if_neg c3,if_neg c4,if_neg c5]) (Ev.step (f := fun _ => some _) (fun k => ?_) (Ev.now _));rw [r8_Normal.j0,if_neg (by decide)];by_cases c1 : q = 1
    ·rw [if_pos c1,if_pos (.inl c1)]
    ·rw [if_neg c1];by_cases c2 : q = 2
     ·rw [if_pos c2,if_pos (.inr c2)]
     ·rw [if_neg c2,if_neg zO,if_neg c3,if_neg c4,if_neg zO]
theorem zJl (q : Int) (a : Nat) (s : ByteArray) (o : Int) : 0 ≤ (normQ q a s o).1 ∧ (normQ q a s o).1 ≤ 8 ∧ (¬ (normQ q a s o).1 = 3 → (normQ q a s o).2.1 = 0) ∧ (∃ b : Nat,(normQ q a s o).2.1 = (b : Int) ∧ (a < 18446744073709551616 → b < 18446744073709551616)) := by
 unfold normQ;split
 ·rename_i h;exact ⟨by dsimp only;omega,by dsimp only;omega,fun _ => rfl,0,rfl,fun _ => by decide⟩
 ·split
  ·rename_i h;exact ⟨by dsimp only;omega,by dsimp only;omega,fun g => absurd h g,zZN a,rfl,zGa⟩
  ·split
   ·rename_i h;exact ⟨by dsimp only;omega,by dsimp only;omega,fun _ => rfl,0,rfl,fun _ => by decide⟩
   ·split
    ·rename_i h;exact ⟨by dsimp only;omega,by dsimp only;omega,fun _ => rfl,0,rfl,fun _ => by decide⟩
    ·exact ⟨by dsimp only;omega,by dsimp only;omega,fun _ => rfl,0,rfl,fun _ => by decide⟩
def keyQ (x : Int × Int × ByteArray × Int) (b : Nat) : Int × Int × ByteArray × Int × Bool :=
 if x.1 = 0 ∨ (x.1 = 3 ∧ kindV b = 4) then (0,0,(⟨#[]⟩ : ByteArray),0,false) else if x.1 = 3 ∧ rung b = 0 then (x.1,0,x.2.2.1,x.2.2.2,true) else (x.1,x.2.1,x.2.2.1,x.2.2.2,true)
theorem zGJ (q : Int) (a : Nat) (s : ByteArray) (o : Int) (ha : a < 18446744073709551616) : ∃ r,Ev (fun k => value_Key.f k q (a : Int) s o) r ∧ Ev (fun k => r8_Key.f k q (a : Int) s o) r := by
 obtain ⟨K1,g1⟩ := zJQ q a s o ha;obtain ⟨K2,g2⟩ := zWo q a s o ha;obtain ⟨n1,n2,n3,b,hb,hb2⟩ := zJl q a s o;obtain ⟨x,hx⟩ : ∃ x,x = normQ q a s o := ⟨_,rfl⟩;dsimp only at g1 g2;rw [← hx] at g1 g2 n1 n2 n3 hb;obtain ⟨x1,x2,x3,x4⟩ := x;dsimp only at n1 n2 n3 hb;have hb2 := hb2 ha;(have hk : flo_Kind.f x2 = some (kindV b) := by rw [hb];exact zKr b hb2);obtain ⟨K3,g3⟩ := zZn b hb2;dsimp only at g3;rw [← hb] at g3;refine ⟨keyQ (x1,x2,x3,x4) b,⟨K1 + 1,fun k hk2 => ?_⟩,⟨K2 + K3 + 1,fun k hk2 => ?_⟩⟩
 ·obtain ⟨k',rfl⟩ : ∃ k',k = k' + 1 := ⟨k - 1,by omega⟩;dsimp only;unfold keyQ;rw [value_Key.f,g1 (k' + 1) zO,Option.bind_some];dsimp only;by_cases c0 : x1 = 0
  ·rw [if_pos c0,if_pos (.inl c0),value_Key.j0,if_pos rfl]
  ·rw [if_neg c0];by_cases c3 : x1 = 3
   ·rw [if_pos c3,hk,Option.bind_some,value_Key.j0];by_cases c4 : kindV b = 4
    ·rw [if_pos (by rw [beq_iff_eq];exact c4),if_pos (.inr ⟨c3,c4⟩)]
    ·rw [if_neg (by rw [beq_iff_eq];exact c4),if_neg (show ¬ (x1 = 0 ∨ x1 = 3 ∧ kindV b = 4) from fun h => h.elim c0 (fun h => c4 h.2)),if_pos c3,hk,Option.bind_some];by_cases cz : kindV b = 0
     ·rw [if_pos cz,if_pos ⟨c3,(zJq b).1 cz⟩]
     ·rw [if_neg cz,if_neg (fun h => cz ((zJq b).2 h.2))]
   ·(have d1 : ¬ (x1 = 0 ∨ x1 = 3 ∧ kindV b = 4) := fun h => h.elim c0 (fun h => c3 h.1));(have d2 : ¬ (x1 = 3 ∧ rung b = 0) := fun h => c3 h.1);rw [if_neg c3,value_Key.j0,if_neg (show ¬ (false = true) by decide),if_neg c3,if_neg d1,if_neg d2]
 ·obtain ⟨k',rfl⟩ : ∃ k',k = k' + 1 := ⟨k - 1,by omega⟩;dsimp only;unfold keyQ;rw [r8_Key.f,g2 (k' + 1) zO,Option.bind_some];dsimp only;by_cases c0 : x1 = 0
  ·rw [if_pos c0,if_pos (.inl c0),r8_Key.j0,if_pos rfl]
  ·rw [if_neg c0];by_cases c3 : x1 = 3
   ·rw [if_pos c3,g3 (k' + 1) zO,Option.bind_some,r8_Key.j0];by_cases c4 : kindV b = 4
    ·rw [if_pos (by rw [beq_iff_eq];exact c4),if_pos (.inr ⟨c3,c4⟩)]
    ·rw [if_neg (by rw [beq_iff_eq];exact c4),if_neg (show ¬ (x1 = 0 ∨ x1 = 3 ∧ kindV b = 4) from fun h => h.elim c0 (fun h => c4 h.2)),if_pos c3];have hr : rung b = b % 9223372036854775808 := rfl;by_cases cm : x2 = 9223372036854775808
     ·rw [if_pos cm,if_pos ⟨c3,by omega⟩]
     ·rw [if_neg cm];by_cases cz : rung b = 0
      ·rw [if_pos ⟨c3,cz⟩,show x2 = 0 by omega]
      ·rw [if_neg (fun h => cz h.2)]
   ·(have d1 : ¬ (x1 = 0 ∨ x1 = 3 ∧ kindV b = 4) := fun h => h.elim c0 (fun h => c3 h.1));(have d2 : ¬ (x1 = 3 ∧ rung b = 0) := fun h => c3 h.1);rw [if_neg c3,r8_Key.j0,if_neg (show ¬ (false = true) by decide),if_neg c3,if_neg d1,if_neg d2]
theorem zJo (q : Int) (a : Nat) (s : ByteArray) (o : Int) (ha : a < 18446744073709551616) : ∃ r,Ev (fun k => value_name.f k q (a : Int) s o) r ∧ Ev (fun k => r8_Name.f k q (a : Int) s o) r := by
 obtain ⟨K1,g1⟩ := zJQ q a s o ha;obtain ⟨K2,g2⟩ := zWo q a s o ha;obtain ⟨n1,n2,_⟩ := zJl q a s o;dsimp only at g1 g2;refine ⟨zJn.getD (normQ q a s o).1.toNat ⟨#[]⟩,⟨K1,fun k hk => ?_⟩,⟨K2,fun k hk => ?_⟩⟩
 ·dsimp only;rw [value_name.f,g1 k hk,Option.bind_some,if_pos ⟨n1,by omega⟩]
 ·dsimp only;rw [r8_Name.f,Option.bind_some,g2 k hk,Option.bind_some,if_pos n1,if_pos (by show (normQ q a s o).1 < ((9 : Nat) : Int);omega)]
  rfl
theorem zVj (q : Int) (a : Nat) (s : ByteArray) (o : Int) (ha : a < 18446744073709551616) : ∃ r,Ev (fun k => value_Show.f k q (a : Int) s o) r ∧ Ev (fun k => r8_Show.f k q (a : Int) s o) r := by
 by_cases c1 : q = 1
 ·exact ⟨_,⟨0,fun k _ => by dsimp only;rw [value_Show.f,if_pos c1]⟩,⟨0,fun k _ => by dsimp only;rw [r8_Show.f,if_neg zO,if_neg zO,if_pos c1]⟩⟩
 ·by_cases c2 : q = 2
  ·exact ⟨_,⟨0,fun k _ => by dsimp only;rw [value_Show.f,if_neg c1,if_pos c2]⟩,⟨0,fun k _ => by dsimp only;rw [r8_Show.f,if_neg zO,if_neg zO,if_neg c1,if_pos c2]⟩⟩
  ·by_cases c3 : q = 3
   ·obtain ⟨r,⟨K1,g1⟩,⟨K2,g2⟩⟩ := zBO a ha;dsimp only at g1 g2;refine ⟨r,⟨K1,fun k hk => ?_⟩,⟨K2,fun k hk => ?_⟩⟩
    ·dsimp only;rw [value_Show.f,if_neg c1,if_neg c2,if_pos c3,g1 k hk,Option.bind_some]
    ·dsimp only;rw [r8_Show.f,if_pos c3,g2 k hk,Option.bind_some]
   ·by_cases c4 : q = 4
    ·exact ⟨s,⟨0,fun k _ => by dsimp only;rw [value_Show.f,if_neg c1,if_neg c2,if_neg c3,if_pos c4]⟩,⟨0,fun k _ => by dsimp only;rw [r8_Show.f,if_neg c3,if_pos c4]⟩⟩
    ·obtain ⟨r,⟨K1,g1⟩,⟨K2,g2⟩⟩ := zJo q a s o ha;dsimp only at g1 g2;refine ⟨r,⟨K1,fun k hk => ?_⟩,⟨K2,fun k hk => ?_⟩⟩
     ·dsimp only;rw [value_Show.f,if_neg c1,if_neg c2,if_neg c3,if_neg c4,g1 k hk,Option.bind_some]
     ·dsimp only;rw [r8_Show.f,if_neg c3,if_neg c4,if_neg c1,if_neg c2,g2 k hk,Option.bind_some]
theorem zVF : w8_lives.f 300 = some true := by kernel_rfl
theorem zBZ : Ev (fun k => (w8_lives.f k).bind fun t => some t) true := Ev.bind (Ev.of (k := 300) (fun k => w8_lives.mono _) zVF) (Ev.now _)
theorem zWS (b : Int × Int × ByteArray × Int) : (b.1 == b.1 && (b.2.1 == b.2.1 && (b.2.2.1.toList == b.2.2.1.toList && (b.2.2.2 == b.2.2.2)))) = true := by
 simp only [beq_self_eq_true,Bool.and_self]
theorem zZb (q n : Int) (s : ByteArray) (o : Int) (wk0 : (Lit.int .i64 q).wf = true) (wn0 : (Lit.int .u64 n).wf = true) (wo0 : (Lit.int .i64 o).wf = true) (ms0 : s.size ≤ maxLen) (z0 : s.size ≤ 140737488351232) : ∃ k,w8_ValueForms.f k q n s o = some true := by
 have hn : 0 ≤ n ∧ n < 18446744073709551616 := by
  (have : 0 ≤ n ∧ n ≤ 18446744073709551615 := by simpa [Lit.wf,IntKind.min,IntKind.max,IntKind.signed,IntKind.bits] using wn0);omega
 obtain ⟨a,rfl⟩ : ∃ a : Nat,n = (a : Int) := ⟨n.toNat,by omega⟩;(have ha : a < 18446744073709551616 := by omega);obtain ⟨y,⟨K1,g1⟩,⟨K2,g2⟩⟩ := zGJ q a s o ha;obtain ⟨K3,g3⟩ := zJQ q a s o ha;obtain ⟨K4,g4⟩ := zWo q a s o ha;obtain ⟨nm,⟨K5,g5⟩,⟨K6,g6⟩⟩ := zJo q a s o ha;obtain ⟨sh,⟨K7,g7⟩,⟨K8,g8⟩⟩ := zVj q a s o ha;obtain ⟨K9,g9⟩ := zBZ;dsimp only at g1 g2 g3 g4 g5 g6 g7 g8 g9;refine ⟨K1 + K2 + K3 + K4 + K5 + K6 + K7 + K8 + K9,?_⟩;generalize hK : K1 + K2 + K3 + K4 + K5 + K6 + K7 + K8 + K9 = K;have e1 := zWS (normQ q a s o);have e2 := zWS (y.1,y.2.1,y.2.2.1,y.2.2.2.1);dsimp only at e2
 have e3 : (decide ((normQ q a s o).1 > 1) == decide ((normQ q a s o).1 ≥ 2)) = true := by
  rw [beq_iff_eq];exact decide_eq_decide.2 zO
 rw [w8_ValueForms.f,g1 K zO,Option.bind_some,g2 K zO,Option.bind_some,value_Normal.f,g3 K zO,Option.bind_some,Option.bind_some,g4 K zO,Option.bind_some];dsimp only;rw [if_pos e1,if_pos e2,if_pos (beq_self_eq_true _),value_Truth.f,g3 K zO,Option.bind_some,Option.bind_some,r8_Truth.f,g4 K zO,Option.bind_some,Option.bind_some,if_pos e3,value_Name.f,g5 K zO,Option.bind_some,Option.bind_some,g6 K zO,Option.bind_some,if_pos rfl,g7 K zO,Option.bind_some,g8 K zO,Option.bind_some,if_pos rfl];exact g9 K zO
end Go.Proofs.YtongfmeediokmaaGreatDoor.Pure
end
section
namespace Go.Proofs.YtongfmeediokmaaGreatDoor.Pr
open Go.RowKit
def zJF {H : Type} (bs : List ByteArray) : DataW H := .agg (bs.map fun b => .lit (.string b.data.toList))
theorem zWA {H : Type} {enc : TypeId × Value → H} {P : Program} {w : World} {base : Nat} {sp : Nat → Bool} {held : Bool} {fuel : Nat} {t e : TypeId} {n : Nat} {cs : List Value} {zs : List ByteArray} {p : List MemPlace}
  (ht : P.underlying t = some (.array n e)) (he : P.underlying e = some .string) (hce : P.cellsOf e = 1) (hct : P.cellsOf t = n)
  (h : DataW.trod enc P w base sp held fuel t cs = some (zJF zs,p)) : cs = zs.map fun z => Value.string z := by
 cases fuel with
 | zero => simp [DataW.trod] at h
 | succ fuel =>
  simp only [DataW.trod,ht,hce,hct,Nat.mul_one] at h;split at h
  ·rename_i hl
   obtain ⟨xs,hm,hx⟩ := Option.map_eq_some_iff.1 h
   have hxs : xs.map (·.1) = zs.map fun z => (DataW.lit (.string z.data.toList) : DataW H) := by
    have := congrArg Prod.fst hx
    simpa [zJF] using this
   have hxl : xs.length = n := by simpa using Lib.mapM_length hm
   have hzl : zs.length = n := by
    have := congrArg List.length hxs;simp at this;omega
   apply List.ext_getElem?;intro i;by_cases hi : i < n
   ·obtain ⟨b,hb,hf⟩ := Lib.mapM_at hm i i (by simp [hi]);obtain ⟨z,hc,hz,_⟩ := DataW.trod_string he hf
    have h1 : cs[i]? = some (.string z) := by
     have := congrArg (·[0]?) hc
     simpa [List.getElem?_take,List.getElem?_drop] using this
    (have h2 : (xs.map (·.1))[i]? = some (DataW.lit (.string z.data.toList) : DataW H) := by simp [hb,hz]);rw [hxs] at h2;simp only [List.getElem?_map,Option.map_eq_some_iff,DataW.lit.injEq,Lit.string.injEq] at h2;obtain ⟨z',hz',hzz⟩ := h2
    have : z' = z := by
     cases z';cases z
     congr 1
     exact Array.toList_inj.1 hzz
    subst this;simp [h1,hz']
   ·rw [List.getElem?_eq_none zO,List.getElem?_eq_none (by simp;omega)]
  ·cases h
def zKz (P : Program) (w : World) (name : String) (zs : List ByteArray) : Prop := w.var? P name = some (zs.map fun z => Value.string z).toArray
theorem zKa {P : Program} {W : World} {name : String} {zs : List ByteArray} {rest : List (String × DataW Unit)} {g : Nat} {t e : TypeId} {n : Nat}
  (hg : P.globalNamed name = some g) (hty : (P.globals[g]?).map (·.type) = some t) (ht : P.underlying t = some (.array n e)) (he : P.underlying e = some .string) (hce : P.cellsOf e = 1) (hct : P.cellsOf t = n)
  (h : laidMet P ((name,zJF zs) :: rest) W) : zKz P W name zs := by
 obtain ⟨ps,⟨g',t',cs,fuel,p,q,hg',ht',hvar,hd,_,_⟩,_⟩ := h;obtain rfl := Option.some.inj (hg.symm.trans hg');obtain rfl := Option.some.inj (hty.symm.trans ht');unfold zKz;rw [hvar,← zWA ht he hce hct hd]
theorem zKz.cell {P : Program} {W : World} {name : String} {zs : List ByteArray} {g : Nat} (h : zKz P W name zs) (hg : P.globalNamed name = some g) (i : Nat) (hi : i < zs.length) :
  W.cell? ⟨g,i,none⟩ = some (.string (zs.getD i ⟨#[]⟩)) := by
 have := World.var?_cell hg h i
 simpa [List.getD,hi] using this
end Go.Proofs.YtongfmeediokmaaGreatDoor.Pr
end
section
namespace Go.Proofs.YtongfmeediokmaaGreatDoor.Pr
open Go.ChangeShapes Go.WideShapes Go.RowKit
set_option maxRecDepth 100000
theorem zBQ {H : Type} {enc : TypeId × Value → H} {w : World} {r : Reach} {b0 : Nat} {v : Value} {d : DataW H} {ps : List MemPlace} (hval : Value.okWide Tryz.prog w r b0 25 v) (hd : DataW.Trod enc Tryz.prog w 0 (fun _ => true) true 25 v d ps) :
  ∃ (k n : Int) (s : ByteArray) (o : Int),v = .agg #[.int .i64 k,.int .u64 n,.string s,.int .i64 o] ∧
   (Lit.int .i64 k).wf = true ∧ (Lit.int .u64 n).wf = true ∧ s.size ≤ maxLen ∧ (Lit.int .i64 o).wf = true ∧
   ((∀ n ∈ d.weights Tryz.prog 25,n ≤ reachBytes) → s.size ≤ 140737488351232) := by
 obtain ⟨cs,rfl,hsz⟩ := Go.WideShapes.okWide_struct Tryz.underlying25 hval;obtain ⟨fuel,h⟩ := hd;obtain ⟨xs,n,hn,hx,hl,hlen,hf⟩ := DataW.trod_struct Tryz.underlying25 h;obtain ⟨rfl,-⟩ := Prod.mk.inj hx;obtain ⟨cs⟩ := cs;have hl4 : cs.length = 4 := hl
 obtain ⟨v0,v1,v2,v3,rfl⟩ : ∃ v0 v1 v2 v3,cs = [v0,v1,v2,v3] := by
  match cs,hl4 with
  | [a,b,c,d],_ => exact ⟨a,b,c,d,rfl⟩
 have hxl : xs.length = 4 := hlen
 obtain ⟨y0,y1,y2,y3,rfl⟩ : ∃ y0 y1 y2 y3,xs = [y0,y1,y2,y3] := by
  match xs,hxl with
  | [a,b,c,d],_ => exact ⟨a,b,c,d,rfl⟩
 have g0 : DataW.trod enc Tryz.prog w 0 (fun _ => true) true n 3 [v0] = some y0 := hf 0 _ rfl;have g1 : DataW.trod enc Tryz.prog w 0 (fun _ => true) true n 23 [v1] = some y1 := hf 1 _ rfl;have g2 : DataW.trod enc Tryz.prog w 0 (fun _ => true) true n 9 [v2] = some y2 := hf 2 _ rfl;have g3 : DataW.trod enc Tryz.prog w 0 (fun _ => true) true n 3 [v3] = some y3 := hf 3 _ rfl;obtain ⟨k,e0,_,w0⟩ := DataW.trod_int Tryz.underlying3 g0;obtain ⟨m,e1,_,w1⟩ := DataW.trod_int Tryz.underlying23 g1;obtain ⟨S,e2,z2,w2⟩ := DataW.trod_string Tryz.underlying9 g2;obtain ⟨o,e3,_,w3⟩ := DataW.trod_int Tryz.underlying3 g3
 injection e0 with e0 _
 injection e1 with e1 _
 injection e2 with e2 _
 injection e3 with e3 _
 refine ⟨k,m,S,o,?_,w0,w1,w2,w3,fun hall => ?_⟩
 ·rw [e0,e1,e2,e3]
 ·have hfs : ∀ n,n ∈ (y2.1.weights Tryz.prog 9) → n ∈ DataW.weights Tryz.prog 25 (.agg [y0.1,y1.1,y2.1,y3.1]) := by
   intro n hn;simp only [DataW.weights,Tryz.underlying25];show n ∈ DataW.weightsEach Tryz.prog [3,23,9,3] [y0.1,y1.1,y2.1,y3.1];simp only [DataW.weightsEach,List.mem_append,List.append_nil];exact .inr (.inr (.inl hn))
  have := hall S.size (hfs _ (by rw [z2];simp [DataW.weights,Array.length_toList]));exact this
end Go.Proofs.YtongfmeediokmaaGreatDoor.Pr
end
