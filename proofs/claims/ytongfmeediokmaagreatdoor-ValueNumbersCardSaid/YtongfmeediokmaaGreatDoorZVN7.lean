/- A part of the proof of the law that RowValueNumbers shows: lemmas, and contracts of the calls that it reaches. -/
import Derived.Test.YtongfmeediokmaaGreatDoorProg
import Derived.Below
import Derived.Deep.Draws
import Derived.Deep.AppendLies
import Derived.Maps.AppendAt
import Derived.OwnWalk
import Derived.Laws.BytesArg
import Derived.Laws.MakeOwn
import Derived.Laws.OwnMore
import Derived.Deep.OwnRows
import Derived.Tactics
import Derived.Lib.ConvBytes
import Derived.Laws.Slices
import Derived.WalkKit
import Derived.KernelRfl
import Derived.RowKit3
import Derived.Deep.LoopGhost
import Derived.Deep.QuietTactic
import Derived.BigQuiet
import Derived.WideLaws
import Derived.Deep.DeepCutAuto
import Derived.Deep.CutBlock
import Derived.Deep.RegionHeld3
import Derived.Laws.Rows
import Derived.Lib.AppendStr
import Derived.ArgAppend
import Derived.Laws.IdiomCopy
import Derived.OrdersHeld
import Derived.Laws.BitsLemmas
import Derived.RowKit
import Derived.Test.YtongfmeediokmaaGreatDoorZVN0
import Derived.Test.YtongfmeediokmaaGreatDoorZVN6
import Derived.Test.YtongfmeediokmaaGreatDoorZVN2
import Derived.Test.YtongfmeediokmaaGreatDoorZVN3
import Derived.Lib.LaidTab
import Derived.OpenShut
import Derived.ChangeArms
set_option linter.unusedVariables false
set_option linter.unusedSimpArgs false
section
namespace Go.Proofs.YtongfmeediokmaaGreatDoor.Pure
open Go.RowKit Go.Proofs.YtongfmeediokmaaGreatDoor.Pr Go.Proofs.YtongfmeediokmaaGreatDoorW.PrintWords Go.Proofs.YtongfmeediokmaaGreatDoorW.PrintLast Go.Proofs.YtongfmeediokmaaGreatDoorW.PrintMore Go.Proofs.YtongfmeediokmaaGreatDoor.Flo
theorem zHx (a b : Nat) : zs (a + b) = zs a ++ zs b := by
 unfold zs;rw [← zVz,List.replicate_append_replicate]
theorem zJH : zs 0 = (⟨#[]⟩ : ByteArray) := rfl
theorem zs_bt : ∀ (a i : Nat),i < a → bt (zs a) (i : Int) = 48
 | 0,i,h => by omega
 | a + 1,i,h => by
  rw [zHx,zXu,zXv];by_cases c : i < a
  ·rw [if_pos c];exact zs_bt a i c
  ·rw [if_neg c,show i - a = 0 by omega];rfl
theorem zWU (a : Nat) : zQH (zs a) := fun i hi => by rw [zXv] at hi;rw [zs_bt a i hi];decide
theorem zWM (s t : ByteArray) : ∀ i,i ≤ t.size → dval (s ++ t) (s.size + i) = dval s s.size * 10 ^ i + dval t i
 | 0,_ => by rw [Nat.add_zero,Nat.pow_zero,Nat.mul_one,zKt s t s.size (Nat.le_refl _)];rfl
 | i + 1,h => by
  rw [← Nat.add_assoc,dval,dval,zWM s t i (by omega),zXu,if_neg (by omega),show s.size + i - s.size = i by omega,Nat.pow_succ,Nat.add_mul,Nat.mul_assoc,Nat.add_assoc]
theorem zVm (a : Nat) : ∀ i,i ≤ a → dval (zs a) i = 0
 | 0,_ => rfl
 | i + 1,h => by rw [dval,zVm a i (by omega),zs_bt a i (by omega)];rfl
theorem zHj (a b : Nat) (d : ByteArray) : dval (zs a ++ d ++ zs b) (zs a ++ d ++ zs b).size = dval d d.size * 10 ^ b := by
 have h1 := zWM (zs a ++ d) (zs b) b (by rw [zXv];exact Nat.le_refl _);have h2 := zWM (zs a) d d.size (Nat.le_refl _);rw [zXv] at h2;rw [zQW (zs a ++ d),zXv,h1,zQW,zXv,h2,zVm a a (Nat.le_refl _),zVm b b (Nat.le_refl _),Nat.zero_mul,Nat.zero_add,Nat.add_zero]
theorem zBE (d : ByteArray) (i : Nat) (h : i ≤ d.size) : d.extract 0 i ++ d.extract i d.size = d := by
 refine zYQ ?_
 rw [bytes_append,zQU,zQU,List.drop_zero,List.take_of_length_le (l := bytes d) (i := d.size) (by rw [zQE];exact Nat.le_refl _),List.take_append_drop]
theorem zKa {d : ByteArray} (h : zQH d) (a b : Nat) (hb : b ≤ d.size) : zQH (d.extract a b) := by
 intro i hi;rw [ext_size d a b hb] at hi;rw [zBM d a b i (by omega)];exact h _ (by omega)
theorem zGg (d : ByteArray) (hd : zQH d) (hd0 : d.size ≠ 0) (hds : d.size ≤ 100) (neg : Bool) (n : Nat) (hn : n ≠ 0) (hn2 : n ≤ 900) :
  Ev (fun k => dec_cut.f k (mant d ++ (emark neg ++ strOfNums (ds n)))) (d,(if neg = true then -(n : Int) else (n : Int)) - d.size + 1,true) := by
 have h4 := zYG n (by omega);have hv := zHI n;have hT := zGK neg (strOfNums (ds n)) (zBH n) (by rw [zXX];have := zZH hn;omega) h4 (by omega);rw [hv] at hT;unfold mant;by_cases c : 1 < d.size
 ·rw [if_pos c];(have hs1 : (d.extract 0 1).size = 1 := by rw [ext_size d 0 1 (by omega)]);have hs2 : (d.extract 1 d.size).size = d.size - 1 := ext_size d 1 d.size (Nat.le_refl _);have h := zZI (d.extract 0 1) (d.extract 1 d.size) _ _ (zKa hd 0 1 (by omega)) (by omega) (by omega) (zKa hd 1 d.size (Nat.le_refl _)) (by omega) (by omega) hT;rw [zBE d 1 (by omega),hs2] at h;rw [show d.extract 0 1 ++ (⟨#[46]⟩ : ByteArray) ++ d.extract 1 d.size ++ (emark neg ++ strOfNums (ds n)) = d.extract 0 1 ++ ((⟨#[46]⟩ : ByteArray) ++ (d.extract 1 d.size ++ (emark neg ++ strOfNums (ds n)))) by simp only [zYw]];rw [show (if neg = true then -(n : Int) else (n : Int)) - (d.size : Int) + 1 = -((d.size - 1 : Nat) : Int) + (if neg = true then -(n : Int) else (n : Int)) by split <;> omega];exact h
 ·rw [if_neg c];have h := zJA d _ _ hd hd0 (by omega) hT;rw [show (if neg = true then -(n : Int) else (n : Int)) - (d.size : Int) + 1 = (if neg = true then -(n : Int) else (n : Int)) by split <;> omega];exact h
theorem zFm (d : ByteArray) (hd : zQH d) (hd0 : d.size ≠ 0) (hds : d.size ≤ 100) (e : Int) (he : -900 ≤ e) (he2 : e ≤ 900) :
  ∃ a b : Nat,a ≤ 10 ∧ b ≤ 25 ∧ Ev (fun k => dec_cut.f k (layF d e)) (zs a ++ d ++ zs b,e - d.size + 1 - b,true) := by
 (have hz0 : zs 0 ++ d ++ zs 0 = d := by rw [zJH,tnil,zKg]);unfold layF;by_cases c1 : e < -7
 ·rw [if_pos c1];refine ⟨0,0,by decide,by decide,?_⟩;have h := zGg d hd hd0 hds true (-e).toNat (by omega) (by omega);rw [if_pos rfl,show (-(((-e).toNat : Nat) : Int)) = e by omega] at h;rw [hz0,zYw,show e - (d.size : Int) + 1 - ((0 : Nat) : Int) = e - (d.size : Int) + 1 by omega];exact h
 ·rw [if_neg c1];by_cases c2 : 20 < e
  ·rw [if_pos c2];refine ⟨0,0,by decide,by decide,?_⟩;have h := zGg d hd hd0 hds false e.toNat (by omega) (by omega);rw [if_neg (by decide),show (((e.toNat : Nat) : Int)) = e by omega] at h;rw [hz0,zYw,show e - (d.size : Int) + 1 - ((0 : Nat) : Int) = e - (d.size : Int) + 1 by omega];exact h
  ·rw [if_neg c2];by_cases c3 : e < 0
   ·rw [if_pos c3];refine ⟨1 + (-e - 1).toNat,0,by omega,by decide,?_⟩;have h := zZI (zs 1) (zs (-e - 1).toNat ++ d) _ _ (zWU 1) (by rw [zXv];decide) (by rw [zXv];decide) (zYP (zWU _) hd) (by rw [zQR];omega) (by rw [zQR,zXv];omega) zWz;rw [tnil,zQR,zXv] at h;rw [zHx,zJH,tnil,show (⟨#[48,46]⟩ : ByteArray) ++ zs (-e - 1).toNat ++ d = zs 1 ++ ((⟨#[46]⟩ : ByteArray) ++ (zs (-e - 1).toNat ++ d)) by rw [show (⟨#[48,46]⟩ : ByteArray) = zs 1 ++ (⟨#[46]⟩ : ByteArray) from rfl];simp only [zYw]];rw [zYw,show e - (d.size : Int) + 1 - ((0 : Nat) : Int) = -(((-e - 1).toNat + d.size : Nat) : Int) + 0 by omega];exact h
   ·rw [if_neg c3];by_cases c4 : (d.size : Int) ≤ e + 1
    ·rw [if_pos c4];refine ⟨0,(e + 1 - d.size).toNat,by decide,by omega,?_⟩;have h := zJA (d ++ zs (e + 1 - d.size).toNat) _ _ (zYP hd (zWU _)) (by rw [zQR];omega) (by rw [zQR,zXv];omega) zWz;rw [tnil] at h;rw [zJH,zKg,show e - (d.size : Int) + 1 - (((e + 1 - (d.size : Int)).toNat : Nat) : Int) = 0 by omega];exact h
    ·rw [if_neg c4];refine ⟨0,0,by decide,by decide,?_⟩;(have hs1 : (d.extract 0 (e + 1).toNat).size = (e + 1).toNat := by rw [ext_size d 0 (e + 1).toNat (by omega)];omega);have hs2 : (d.extract (e + 1).toNat d.size).size = d.size - (e + 1).toNat := ext_size d (e + 1).toNat d.size (Nat.le_refl _);have h := zZI (d.extract 0 (e + 1).toNat) (d.extract (e + 1).toNat d.size) _ _ (zKa hd 0 (e + 1).toNat (by omega)) (by omega) (by omega) (zKa hd (e + 1).toNat d.size (Nat.le_refl _)) (by omega) (by omega) zWz;rw [tnil,zBE d (e + 1).toNat (by omega),hs2] at h;rw [hz0,zYw,show e - (d.size : Int) + 1 - ((0 : Nat) : Int) = -((d.size - (e + 1).toNat : Nat) : Int) + 0 by omega];exact h
theorem zJZ {n R S D U p q m X : Nat} (h : Sp n R S D U) (hn : 0 < n) (hX : X = pickX (R * 10 ^ p * 10 ^ m / (S * 10 ^ q)) (R * 10 ^ p * 10 ^ m % (S * 10 ^ q)) (D * 10 ^ p * 10 ^ m) (U * 10 ^ p * 10 ^ m) (S * 10 ^ q) (n % 2 == 0))
  (hst : Stop (R * 10 ^ p * 10 ^ m % (S * 10 ^ q)) (D * 10 ^ p * 10 ^ m) (U * 10 ^ p * 10 ^ m) (S * 10 ^ q) (n % 2 == 0)) : zXA (upN X ((q : Int) - p - m)) (loN ((q : Int) - p - m)) n := by
 have hs : 0 < S * 10 ^ q := Nat.mul_pos h.hS (zQF q)
 have hQρ : R * 10 ^ p * 10 ^ m = (R * 10 ^ p * 10 ^ m / (S * 10 ^ q)) * (S * 10 ^ q) + R * 10 ^ p * 10 ^ m % (S * 10 ^ q) := by
  rw [Nat.mul_comm (R * 10 ^ p * 10 ^ m / (S * 10 ^ q))];exact (Nat.div_add_mod _ _).symm
 have hρs := Nat.mod_lt (R * 10 ^ p * 10 ^ m) hs;have he : (q : Int) - p = (q : Int) - p := rfl;have hlowI := zFl (m := m) h hn he hQρ;have hundI := zVs (m := m) h he hQρ;have hfarI := zFt (m := m) h he hQρ;have habvI := zVj (m := m) h hn he hQρ hρs;rw [hX];unfold pickX;split
 ·rename_i c
  exact ⟨habvI,hfarI.2 c.1⟩
 ·rename_i c
  rcases hst with g | g
  ·exact ⟨hlowI.2 g,hundI⟩
  ·by_cases hl : Low (R * 10 ^ p * 10 ^ m % (S * 10 ^ q)) (D * 10 ^ p * 10 ^ m) (n % 2 == 0)
   ·exact ⟨hlowI.2 hl,hundI⟩
   ·exact absurd ⟨g,.inl hl⟩ c
theorem zHJ (Y : Nat) (h : Y ≠ 0) : ∀ z,(ds (Y * 10 ^ z)).length = (ds Y).length + z
 | 0 => by rw [Nat.pow_zero,Nat.mul_one];rfl
 | z + 1 => by
  have h1 : Y * 10 ^ z ≠ 0 := Nat.ne_of_gt (Nat.mul_pos (by omega) (Nat.pow_pos (by decide)));rw [Nat.pow_succ,← Nat.mul_assoc,zYX (by omega),Nat.mul_div_cancel _ (by decide),List.length_append,zHJ Y h z,List.length_singleton,Nat.add_assoc]
theorem zVy (m X : Nat) (e : Int) (hX1 : 10 ^ m ≤ X) (hX2 : X ≤ 10 ^ (m + 1)) (hm : m ≤ 16) :
  ∃ z : Nat,X = strip X * 10 ^ z ∧ strip X ≠ 0 ∧ strip X % 10 ≠ 0 ∧ (ds (strip X)).length ≤ 17 ∧ (if X = 10 ^ (m + 1) then e + 1 else e) - ((ds (strip X)).length : Nat) + 1 = e - m + z := by
 (have hX0 : X ≠ 0 := by have := Flo.zQF m;omega);obtain ⟨g1,g2,z,g3⟩ := zKj X X (Nat.le_refl _) hX0;have hl := zHJ (strip X) g1 z;rw [← g3] at hl;have hpl := zZH g1;by_cases c : X = 10 ^ (m + 1)
 ·have h10 : 10 ^ (m + 1) < 10 ^ (m + 1 + 1) := Nat.pow_lt_pow_right (by decide) (by omega);have hlen : (ds X).length = m + 1 + 1 := zJy (by omega) (by omega)
  have h1 : (ds (strip X)).length = 1 := by
   have hs1 : strip (10 ^ (m + 1)) = 1 := by
    have : ∀ i,strip (10 ^ i) = 1 := by
     intro i
     induction i with
     | zero => exact zKk (by decide)
     | succ i ih =>
      have hp : 0 < 10 ^ i := Nat.pow_pos (by decide);rw [Nat.pow_succ,zZy (by omega) (by omega),Nat.mul_div_cancel _ (by decide),ih]
    exact this (m + 1)
   rw [c,hs1,zYX (by decide),List.length_append,show 1 / 10 = 0 from rfl,zYF]
   rfl
  rw [if_pos c];exact ⟨z,g3,g1,g2,by omega,by omega⟩
 ·have hlen : (ds X).length = m + 1 := zJy hX1 (by omega);rw [if_neg c];exact ⟨z,g3,g1,g2,by omega,by omega⟩
theorem zVY (d : ByteArray) (hd : zQH d) (hd0 : d.size ≠ 0) (e : Int) : 0 < (layF d e).size ∧ bt (layF d e) ((0 : Nat) : Int) ≠ 45 := by
 have h0 := hd 0 (by omega);have front : ∀ t : ByteArray,0 < (d ++ t).size ∧ bt (d ++ t) ((0 : Nat) : Int) ≠ 45 := fun t => ⟨by rw [zQR];omega,by rw [zXu,if_pos (by omega)];omega⟩
 have ext : ∀ (i : Nat) (t : ByteArray),0 < i → i ≤ d.size → 0 < (d.extract 0 i ++ t).size ∧ bt (d.extract 0 i ++ t) ((0 : Nat) : Int) ≠ 45 := by
  intro i t hi hi2;have hs := ext_size d 0 i hi2;have hb := zBM d 0 i 0 (by omega);rw [Nat.add_zero] at hb;refine ⟨by rw [zQR];omega,?_⟩;rw [zXu,if_pos (by omega),hb];omega
 have mf : ∀ t : ByteArray,0 < (mant d ++ t).size ∧ bt (mant d ++ t) ((0 : Nat) : Int) ≠ 45 := by
  intro t;unfold mant;by_cases c : 1 < d.size
  ·rw [if_pos c,zYw,zYw];exact ext 1 _ (by decide) (by omega)
  ·rw [if_neg c];exact front t
 unfold layF;by_cases c1 : e < -7
 ·rw [if_pos c1,zYw]
  exact mf _
 ·rw [if_neg c1];by_cases c2 : 20 < e
  ·rw [if_pos c2,zYw]
   exact mf _
  ·rw [if_neg c2];by_cases c3 : e < 0
   ·rw [if_pos c3,zYw];refine ⟨by rw [zQR,zKm];omega,?_⟩;rw [zXu,if_pos (by rw [zKm];decide)]
    decide
   ·rw [if_neg c3];by_cases c4 : (d.size : Int) ≤ e + 1
    ·rw [if_pos c4]
     exact front _
    ·rw [if_neg c4,zYw];exact ext (e + 1).toNat _ (by omega) (by omega)
theorem zVQ {n R S D U p q m X : Nat} (hsp : Sp n R S D U) (h0 : 0 < n) (h1 : n < INF) (hf : Far (R * 10 ^ p) (U * 10 ^ p) (S * 10 ^ q) (n % 2 == 0)) (hnf : ¬ Far (R * 10 ^ p) (U * 10 ^ p) (S * 10 ^ (q + 1)) (n % 2 == 0))
  (hg : gen (R * 10 ^ p) (S * 10 ^ q) (D * 10 ^ p) (U * 10 ^ p) (n % 2 == 0) 17 0 = (m,X)) :
  Ev (fun k => dec_Parse.f k (layF (outF (m,X) ((q : Int) - p)).1 (outF (m,X) ((q : Int) - p)).2)) ((n : Int),0) ∧ 0 < (layF (outF (m,X) ((q : Int) - p)).1 (outF (m,X) ((q : Int) - p)).2).size ∧
   (layF (outF (m,X) ((q : Int) - p)).1 (outF (m,X) ((q : Int) - p)).2).size ≤ 400 ∧ bt (layF (outF (m,X) ((q : Int) - p)).1 (outF (m,X) ((q : Int) - p)).2) ((0 : Nat) : Int) ≠ 45 := by
 obtain ⟨m',X',hg',hm,hX1,hX2,hpick,hstop⟩ := zBC hsp h0 hf hnf;rw [hg] at hg';obtain ⟨rfl,rfl⟩ := Prod.mk.inj hg';have hnear := zJZ hsp h0 hpick hstop;have hb := zWl hsp h0 h1 hf hnf;obtain ⟨z,z1,z2,z3,z4,z5⟩ := zVy m X ((q : Int) - p) hX1 hX2 hm;obtain ⟨Y,hY⟩ : ∃ Y,Y = strip X := ⟨_,rfl⟩;(have hout : outF (m,X) ((q : Int) - p) = (strOfNums (ds Y),if X = 10 ^ (m + 1) then (q : Int) - p + 1 else (q : Int) - p) := by unfold outF;rw [hY]);rw [← hY] at z1 z2 z3 z4 z5;obtain ⟨e,he⟩ : ∃ e,e = (if X = 10 ^ (m + 1) then (q : Int) - p + 1 else (q : Int) - p) := ⟨_,rfl⟩;rw [← he] at z5;have hpl := zZH z2;(have hebd : -363 ≤ e ∧ e ≤ 363 := by rw [he];split <;> omega);rw [hout];dsimp only;rw [← he];obtain ⟨u,v,hu,hv,hcut⟩ := zFm (strOfNums (ds Y)) (zBH Y) (by rw [zXX];omega) (by rw [zXX];omega) e (by omega) (by omega);rw [zXX] at hcut;(have hDsz : (zs u ++ strOfNums (ds Y) ++ zs v).size = u + (ds Y).length + v := by rw [zQR,zQR,zXv,zXv,zXX]);have hall : zQH (zs u ++ strOfNums (ds Y) ++ zs v) := zYP (zYP (zWU u) (zBH Y)) (zWU v);have hval := zHj u v (strOfNums (ds Y));rw [zHI] at hval
 have hlsz : (layF (strOfNums (ds Y)) e).size ≤ 400 := by
  have h4 := zYG (-e).toNat (by omega);have h5 := zYG e.toNat (by omega);have h6 := zXX (ds Y);unfold layF mant;by_cases c1 : e < -7
  ·rw [if_pos c1];split <;> simp only [zQR,ByteArray.size_extract,zXd,zWB] <;> omega
  ·rw [if_neg c1];by_cases c2 : 20 < e
   ·rw [if_pos c2];split <;> simp only [zQR,ByteArray.size_extract,zXd,zWA] <;> omega
   ·rw [if_neg c2];by_cases c3 : e < 0
    ·rw [if_pos c3];simp only [zQR,zKm,zXv];omega
    ·rw [if_neg c3];split <;> simp only [zQR,ByteArray.size_extract,zXd,zXv] <;> omega
 obtain ⟨w,hw,hparse⟩ := zJr _ _ _ hlsz hall (by omega) (by omega) (by omega) hcut;rw [hval] at hw
 have hwn : w = n := by
  unfold zYJ at hw;have hne : Y * 10 ^ v ≠ 0 := Nat.ne_of_gt (Nat.mul_pos (by omega) (Flo.zQF v));rw [if_neg (by omega),if_neg (by omega)] at hw;obtain ⟨x,hx,rfl⟩ := hw
  have hx2 : x = n := by
   refine zKx (zYs _) (zYs _) ?_ hx hnear
   have e2 : 10 ^ v * 10 ^ (e - ((ds Y).length : Nat) + 1 - v).toNat * 10 ^ (-((q : Int) - p - m)).toNat = 10 ^ z * 10 ^ ((q : Int) - p - m).toNat * 10 ^ (-(e - ((ds Y).length : Nat) + 1 - v)).toNat := by
    rw [← Nat.pow_add,← Nat.pow_add,← Nat.pow_add,← Nat.pow_add,show v + (e - ((ds Y).length : Nat) + 1 - v).toNat + (-((q : Int) - p - m)).toNat = z + ((q : Int) - p - m).toNat + (-(e - ((ds Y).length : Nat) + 1 - v)).toNat by omega]
   unfold upN loN;rw [z1,Nat.mul_assoc Y,Nat.mul_assoc Y,Nat.mul_assoc Y (10 ^ z),Nat.mul_assoc Y,e2]
  omega
 rw [hwn] at hparse;have hfr := zVY (strOfNums (ds Y)) (zBH Y) (by rw [zXX];omega) e;exact ⟨hparse,hfr.1,hlsz,hfr.2⟩
theorem wrap_one (i : Nat) (h : i ≤ 1000000000) : wrap64 ((i : Int) + 1) = ((i + 1 : Nat) : Int) := by rw [wrapB _ (by omega) (by omega)];omega
theorem zZS (s : ByteArray) (a j : Nat) (hsz : s.size ≤ 1000000) (h : DE s a j) : ∀ d i : Nat,a ≤ i → i + d = j → Ev (fun k => r5_digits.l0 k s (i : Int)) (j : Int)
 | 0,i,ha,hi => by
  (obtain rfl : i = j := by omega);have h2 := h.2.1;refine Ev.step (f := fun _ => some (i : Int)) (fun k => ?_) (Ev.now _);rw [r5_digits.l0];by_cases he : i = s.size
  ·rw [if_neg (by omega)]
  ·(have hnd : ¬ (48 ≤ bt s (i : Int) ∧ bt s (i : Int) ≤ 57) := fun g => h.2.2.2 ⟨by omega,g⟩);rw [if_pos (by omega),if_pos (by omega)];by_cases c : bt s (i : Int) ≥ 48
   ·rw [if_pos c,if_neg (by omega)]
   ·rw [if_neg c]
 | d + 1,i,ha,hi => by
  have ih := zZS s a j hsz h d (i + 1) (by omega) (by omega);have hg := h.2.2.1 i ha (by omega);have h3 := hg.1;have g1 := hg.2.1;have g2 := hg.2.2;refine Ev.step (fun k => ?_) ih;rw [r5_digits.l0,if_pos (by omega),if_pos (by omega),if_pos g1,if_pos g2,wrap_one i (by omega)]
theorem zJR (s : ByteArray) (a j : Nat) (hsz : s.size ≤ 1000000) (h : DE s a j) : Ev (fun k => r5_digits.f k s (a : Int)) (j : Int) :=
 zZS s a j hsz h (j - a) a (Nat.le_refl _) (by have := h.1;omega)
theorem zKo (s : ByteArray) (a : Nat) (hsz : s.size ≤ 1000000) (neg : Bool) (x : Int) (d : ByteArray) (hx : -1000000 ≤ x ∧ x ≤ 1000000) (hd : ∀ t,a ≤ t → t < s.size → Dg s t) : ∀ n i r e : Nat,a ≤ i → i + n = s.size → e = min r 9999 → r ≤ 100000 →
  Ev (fun k => r5_Read.l0 k s neg (r : Int) (i : Int) d x) (d,x + (if neg = true then -1 else 1) * (efold s n i e : Nat),true)
 | 0,i,r,e,ha,hi,he,hr => by
  refine Ev.step (f := fun _ => some (d,x + (if neg = true then -1 else 1) * ((efold s 0 i e : Nat) : Int),true)) (fun k => ?_) (Ev.now _);have hef : efold s 0 i e = e := rfl;rw [hef,r5_Read.l0,if_neg (by omega)];by_cases c : (r : Int) > 9999
  ·(have e1 : e = 9999 := by omega);rw [if_pos c,e1]
   cases neg with
   | true => rw [if_pos rfl,if_pos rfl,wrapB _ (by omega) (by omega)];rfl
   | false => rw [if_neg (by decide),if_neg (by decide),wrapB _ (by omega) (by omega)];rfl
  ·(have e1 : e = r := by omega);rw [if_neg c,e1]
   cases neg with
   | true => rw [if_pos rfl,if_pos rfl,wrapB (-(r : Int)) (by omega) (by omega),wrapB _ (by omega) (by omega),show x + -(r : Int) = x + -1 * (r : Int) by omega]
   | false => rw [if_neg (by decide),if_neg (by decide),wrapB _ (by omega) (by omega),show x + (r : Int) = x + 1 * (r : Int) by omega]
 | n + 1,i,r,e,ha,hi,he,hr => by
  have hg := hd i ha (by omega);have g1 := hg.2.1;have g2 := hg.2.2;(have hb : (bt s (i : Int) - 48) % 256 = bt s (i : Int) - 48 := by omega);by_cases c : r < 9999
  ·have ih := zKo s a hsz neg x d hx hd n (i + 1) (10 * r + (bt s (i : Int) - 48).toNat) (min (10 * e + (bt s (i : Int) - 48).toNat) 9999) (by omega) (by omega) (by omega) (by omega)
   have hm : wrap64 ((wrap64 (10 * (r : Int))) + (bt s (i : Int) - 48)) = ((10 * r + (bt s (i : Int) - 48).toNat : Nat) : Int) := by
    rw [wrapB (10 * (r : Int)) (by omega) (by omega),wrapB _ (by omega) (by omega)];omega
   refine Ev.step (fun k => ?_) ih;(have q1 : (i : Int) < (s.size : Int) := by omega);(have q2 : (r : Int) < 9999 := by omega);(have q3 : (0 : Int) ≤ (i : Int) := by omega);(have q4 : i ≤ 1000000000 := by omega);rw [r5_Read.l0,if_pos q1,if_pos q2,if_pos q3,hb,hm,wrap_one i q4]
  ·have ih := zKo s a hsz neg x d hx hd n (i + 1) r (min (10 * e + (bt s (i : Int) - 48).toNat) 9999) (by omega) (by omega) (by omega) (by omega);refine Ev.step (fun k => ?_) ih;rw [r5_Read.l0,if_pos (by omega),if_neg (by omega),wrap_one i (by omega)]
theorem zFa (s : ByteArray) (a j : Nat) (hsz : s.size ≤ 1000000) (ha : a ≤ s.size) (neg : Bool) (x : Int) (d : ByteArray) (hx : -1000000 ≤ x ∧ x ≤ 1000000) (h : DE s a j) :
  Ev (fun k => r5_Read.j4 k s (a : Int) neg d x) (if a = s.size ∨ j ≠ s.size then (d,x,false) else (d,x + (if neg = true then -1 else 1) * (efrom s a : Nat),true)) := by
 by_cases h0 : a = s.size
 ·rw [if_pos (.inl h0)];refine Ev.step (fun k => ?_) (Ev.step (f := fun _ => some (d,x,false)) (g := fun k => r5_Read.j5 k s (a : Int) neg true d x) (fun k => ?_) (Ev.now _))
  ·rw [r5_Read.j4,if_pos (by omega)]
  ·rw [r5_Read.j5,if_pos rfl]
 ·have hdg := zJR s a j hsz h;by_cases hj : j = s.size
  ·rw [if_neg (by omega)];have hl := zKo s a hsz neg x d hx (fun t t1 t2 => h.2.2.1 t t1 (by omega)) (s.size - a) a 0 0 (Nat.le_refl _) (by omega) (by decide) (by decide)
   have h5 : Ev (fun k => r5_Read.j5 k s (a : Int) neg ((j : Int) != (s.size : Int)) d x) (d,x + (if neg = true then -1 else 1) * (efrom s a : Nat),true) := by
    refine Ev.step (fun k => ?_) hl;rw [r5_Read.j5,if_neg (by rw [hj];simp)]
    rfl
   refine Ev.step (fun k => ?_) (Ev.bind hdg (f := fun k t => r5_Read.j5 k s (a : Int) neg (t != (s.size : Int)) d x) h5);rw [r5_Read.j4,if_neg (by omega)]
  ·rw [if_pos (.inr hj)]
   have h5 : Ev (fun k => r5_Read.j5 k s (a : Int) neg ((j : Int) != (s.size : Int)) d x) (d,x,false) := by
    refine Ev.step (f := fun _ => some (d,x,false)) (fun k => ?_) (Ev.now _);rw [r5_Read.j5,if_pos (bne_iff_ne.2 (by omega))]
   refine Ev.step (fun k => ?_) (Ev.bind hdg (f := fun k t => r5_Read.j5 k s (a : Int) neg (t != (s.size : Int)) d x) h5);rw [r5_Read.j4,if_neg (by omega)]
theorem zJb (s : ByteArray) (a : Nat) (hsz : s.size ≤ 1000000) (ha : a ≤ s.size) (x : Int) (d : ByteArray) (hx : -1000 ≤ x ∧ x ≤ 0) : ∃ r : ByteArray × Int × Bool,Ev (fun k => dec_cut.j0 k (suf s a) d x) r ∧ Ev (fun k => r5_Read.j1 k s (a : Int) d x) r ∧ r.1 = d ∧ -20000 ≤ r.2.1 ∧ r.2.1 ≤ 20000 := by
 by_cases c0 : a = s.size
 ·refine ⟨(d,x,true),zYN s a hsz ha x d _ (fun _ => rfl) (fun h => by omega) (fun h => by omega) (fun h => by omega) (fun h => by omega),?_,rfl,by show -20000 ≤ x;omega,by show x ≤ 20000;omega⟩;refine Ev.step (f := fun _ => some (d,x,true)) (fun k => ?_) (Ev.now _);rw [r5_Read.j1,if_pos (by omega)]
 ·(have hlt : a < s.size := by omega);by_cases ce : bt s (a : Int) = 101 ∨ bt s (a : Int) = 69
  ·
   have hj1 : ∀ r,Ev (fun k => r5_Read.j2 k s (a : Int) false d x) r → Ev (fun k => r5_Read.j1 k s (a : Int) d x) r := by
    intro r h;refine Ev.step (fun k => ?_) h;rw [r5_Read.j1,if_neg (by omega),if_pos (by omega),if_pos (by omega)];rcases ce with c | c
    ·rw [if_pos c]
    ·rw [if_neg (by rw [c];decide),c]
     rfl
   have hend : ∀ (b : Nat) (neg : Bool),b ≤ s.size → ∃ r : ByteArray × Int × Bool,Ev (fun k => dec_cut.j3 k (suf s b) (if neg = true then -1 else 1) d x) r ∧ Ev (fun k => r5_Read.j4 k s (b : Int) neg d x) r ∧ r.1 = d ∧ -20000 ≤ r.2.1 ∧ r.2.1 ≤ 20000 := by
    intro b neg hb;obtain ⟨j,hj⟩ := zWT s (s.size - b) b (by omega);(have h8 : (if neg = true then (-1 : Int) else 1) = 1 ∨ (if neg = true then (-1 : Int) else 1) = -1 := by cases neg <;> simp);refine ⟨_,zHH s b j hsz hb _ x d h8 (by omega) hj,zFa s b j hsz hb neg x d (by omega) hj,?_,?_,?_⟩
    ·split <;> rfl
    ·have := zWL s (s.size - b) b 0 (by decide);split
     ·show -20000 ≤ x;omega
     ·show -20000 ≤ x + (if neg = true then (-1 : Int) else 1) * ((efold s (s.size - b) b 0 : Nat) : Int)
      cases neg
      ·simp only [Bool.false_eq_true,if_false];omega
      ·simp only [if_true];omega
    ·have := zWL s (s.size - b) b 0 (by decide);split
     ·show x ≤ 20000;omega
     ·show x + (if neg = true then (-1 : Int) else 1) * ((efold s (s.size - b) b 0 : Nat) : Int) ≤ 20000
      cases neg
      ·simp only [Bool.false_eq_true,if_false];omega
      ·simp only [if_true];omega
   have hw1 : wrap64 ((a : Int) + 1) = ((a + 1 : Nat) : Int) := wrap_one a (by omega);have hw2 : wrap64 (((a + 1 : Nat) : Int) + 1) = ((a + 2 : Nat) : Int) := wrap_one (a + 1) (by omega);by_cases c1 : a + 1 = s.size
   ·obtain ⟨r,r1,r2,r3,r4,r5⟩ := hend (a + 1) false (by omega);refine ⟨r,zYN s a hsz ha x d r (fun h => absurd h c0) (fun _ h1 h2 => absurd ce (by rintro (h | h);exact h1 h;exact h2 h)) (fun _ _ h => by omega) (fun _ _ h => by omega) (fun _ _ _ => r1),hj1 _ ?_,r3,r4,r5⟩;refine Ev.step (fun k => ?_) (Ev.step (g := fun k => r5_Read.j3 k s ((a + 1 : Nat) : Int) false false d x) (fun k => ?_) r2)
    ·rw [r5_Read.j2,if_neg (by decide),hw1,if_neg (by omega)]
    ·rw [r5_Read.j3,if_neg (by decide)]
   ·(have hlt1 : a + 1 < s.size := by omega);by_cases c2 : bt s ((a + 1 : Nat) : Int) = 43
    ·obtain ⟨r,r1,r2,r3,r4,r5⟩ := hend (a + 2) false (by omega)
     refine ⟨r,zYN s a hsz ha x d r (fun h => absurd h c0) (fun _ h1 h2 => absurd ce (by rintro (h | h);exact h1 h;exact h2 h)) (fun _ _ _ h => by rw [c2] at h;exact absurd h (by decide)) (fun _ _ _ _ => r1) (fun _ _ h => by
      rcases h with h | h
      ·omega
      ·exact absurd c2 h.1),hj1 _ ?_,r3,r4,r5⟩
     refine Ev.step (fun k => ?_) (Ev.step (g := fun k => r5_Read.j3 k s ((a + 1 : Nat) : Int) false true d x) (fun k => ?_) r2)
     ·rw [r5_Read.j2,if_neg (by decide),hw1,if_pos (by omega),if_pos (by omega),if_pos c2]
     ·rw [r5_Read.j3,if_pos rfl,if_pos (by omega),if_pos (by omega),hw2,c2]
      rfl
    ·by_cases c3 : bt s ((a + 1 : Nat) : Int) = 45
     ·obtain ⟨r,r1,r2,r3,r4,r5⟩ := hend (a + 2) true (by omega)
      refine ⟨r,zYN s a hsz ha x d r (fun h => absurd h c0) (fun _ h1 h2 => absurd ce (by rintro (h | h);exact h1 h;exact h2 h)) (fun _ _ _ _ => r1) (fun _ _ _ h => absurd h c2) (fun _ _ h => by
       rcases h with h | h
       ·omega
       ·exact absurd c3 h.2),hj1 _ ?_,r3,r4,r5⟩
      refine Ev.step (fun k => ?_) (Ev.step (g := fun k => r5_Read.j3 k s ((a + 1 : Nat) : Int) false true d x) (fun k => ?_) r2)
      ·rw [r5_Read.j2,if_neg (by decide),hw1,if_pos (by omega),if_pos (by omega),if_neg c2,c3]
       rfl
      ·rw [r5_Read.j3,if_pos rfl,if_pos (by omega),if_pos (by omega),hw2,c3]
       rfl
     ·obtain ⟨r,r1,r2,r3,r4,r5⟩ := hend (a + 1) false (by omega);refine ⟨r,zYN s a hsz ha x d r (fun h => absurd h c0) (fun _ h1 h2 => absurd ce (by rintro (h | h);exact h1 h;exact h2 h)) (fun _ _ _ h => absurd h c3) (fun _ _ _ h => absurd h c2) (fun _ _ _ => r1),hj1 _ ?_,r3,r4,r5⟩;refine Ev.step (fun k => ?_) (Ev.step (g := fun k => r5_Read.j3 k s ((a + 1 : Nat) : Int) false false d x) (fun k => ?_) r2)
      ·rw [r5_Read.j2,if_neg (by decide),hw1,if_pos (by omega),if_pos (by omega),if_neg c2,beq_eq_false_iff_ne.2 c3]
      ·rw [r5_Read.j3,if_neg (by decide)]
  ·(have c1 : bt s (a : Int) ≠ 101 := fun c => ce (.inl c));(have c2 : bt s (a : Int) ≠ 69 := fun c => ce (.inr c));refine ⟨(d,x,false),zYN s a hsz ha x d _ (fun h => absurd h c0) (fun _ _ _ => rfl) (fun _ h => absurd h ce) (fun _ h => absurd h ce) (fun _ h => absurd h ce),?_,rfl,by show -20000 ≤ x;omega,by show x ≤ 20000;omega⟩;refine Ev.step (fun k => ?_) (Ev.step (f := fun _ => some (d,x,false)) (g := fun k => r5_Read.j2 k s (a : Int) true d x) (fun k => ?_) (Ev.now _))
   ·rw [r5_Read.j1,if_neg (by omega),if_pos (by omega),if_pos (by omega),if_neg c1,bne_iff_ne.2 c2]
   ·rw [r5_Read.j2,if_pos rfl]
theorem zVJ (s : ByteArray) (hsz : s.size ≤ 400) : ∃ r r' : ByteArray × Int × Bool,Ev (fun k => dec_cut.f k s) r ∧ Ev (fun k => r5_Read.f k s) r' ∧ r.2.2 = r'.2.2 ∧ (r.2.2 = true → r = r' ∧ zQH r.1 ∧ r.1.size ≤ 400 ∧ -20000 ≤ r.2.1 ∧ r.2.1 ≤ 20000) := by
 obtain ⟨n,hn⟩ := zWT s s.size 0 (by omega);have hrd := zJR s 0 n (by omega) hn;have hn2 := hn.2.1;have e0 : (s.extract 0 n).size = n := by rw [ext_size s 0 n hn2,Nat.sub_zero]
 have ad0 : zQH (s.extract 0 n) := by
  intro i hi;rw [e0] at hi;rw [zBM s 0 n i (by omega),Nat.zero_add];exact (hn.2.2.1 i (by omega) hi).2
 by_cases c0 : n = 0
 ·subst c0;refine ⟨(s.extract 0 0,0,false),((⟨#[]⟩ : ByteArray),0,false),zWp s 0 0 (by omega) hn _ (fun _ => rfl) (fun h => absurd rfl h) (fun h => absurd rfl h),?_,rfl,fun h => by cases h⟩;refine Ev.bind hrd (f := fun k t416 => (if t416 = 0 then (some ((⟨#[]⟩ : ByteArray),(0 : Int),false)) else (if 0 ≤ t416 then (if t416 ≤ (s.size : Int) then (if t416 < (s.size : Int) then (r5_Read.j0 k s t416 ((bt s t416) == 46) (s.extract 0 (t416 : Int).toNat) 0) else (r5_Read.j0 k s t416 false (s.extract 0 (t416 : Int).toNat) 0)) else (none)) else (none)))) (Ev.congr (fun k => if_pos rfl) (Ev.now _))
 ·have hgo : ∀ (r : ByteArray × Int × Bool) (z : Bool),z = decide (n < s.size ∧ bt s (n : Int) = 46) → Ev (fun k => r5_Read.j0 k s (n : Int) z (s.extract 0 n) 0) r → Ev (fun k => r5_Read.f k s) r := by
   intro r z hz h;refine Ev.bind hrd (f := fun k t416 => (if t416 = 0 then (some ((⟨#[]⟩ : ByteArray),(0 : Int),false)) else (if 0 ≤ t416 then (if t416 ≤ (s.size : Int) then (if t416 < (s.size : Int) then (r5_Read.j0 k s t416 ((bt s t416) == 46) (s.extract 0 (t416 : Int).toNat) 0) else (r5_Read.j0 k s t416 false (s.extract 0 (t416 : Int).toNat) 0)) else (none)) else (none)))) (Ev.congr (fun k => ?_) h);rw [if_neg (by omega),if_pos (by omega),if_pos (by omega),Int.toNat_natCast];by_cases c : n < s.size
   ·rw [if_pos (by omega),hz];by_cases cb : bt s (n : Int) = 46
    ·rw [cb,decide_eq_true ⟨c,rfl⟩];rfl
    ·rw [beq_eq_false_iff_ne.2 cb,decide_eq_false (fun h => cb h.2)]
   ·rw [if_neg (by omega),hz,decide_eq_false (fun h => c h.1)]
  by_cases cd : n < s.size ∧ bt s (n : Int) = 46
  ·obtain ⟨m,hm⟩ := zWT s (s.size - (n + 1)) (n + 1) (by omega);have hrd2 := zJR s (n + 1) m (by omega) hm;have hm1 := hm.1;have hm2 := hm.2.1;have hw : wrap64 ((n : Int) + 1) = ((n + 1 : Nat) : Int) := wrap_one n (by omega);by_cases cm : m = n + 1
   ·refine ⟨(s.extract 0 n,0,false),(s.extract 0 n,0,false),zWp s n m (by omega) hn _ (fun h => absurd h c0) (fun _ _ _ => ⟨hm,fun _ => rfl,fun h => absurd cm h⟩) (fun _ h => absurd cd h),hgo _ true (decide_eq_true cd).symm ?_,rfl,fun h => by cases h⟩;refine Ev.step (fun k => ?_) (Ev.bind hrd2 (f := fun k t417 => (if t417 = ((n + 1 : Nat) : Int) then (some (s.extract 0 n,(0 : Int),false)) else none)) (Ev.congr (fun k => if_pos (by omega)) (Ev.now _)));rw [r5_Read.j0,if_pos rfl,hw]
    cases hq : r5_digits.f k s ((n + 1 : Nat) : Int) with
    | none => rfl
    | some t =>
     have ht : t = (m : Int) := by
      obtain ⟨K,hK⟩ := hrd2
      have hup : ∀ z,r5_digits.f (k + z) s ((n + 1 : Nat) : Int) = some t := by
       intro z
       induction z with
       | zero => exact hq
       | succ z ih => exact r5_digits.mono _ _ _ _ ih
      exact Option.some.inj ((hup K).symm.trans (hK (k + K) (Nat.le_add_left ..)))
     rw [Option.bind_some,Option.bind_some,if_pos (by omega),if_pos (by omega)]
   ·have e1 : (s.extract (n + 1) m).size = m - (n + 1) := ext_size s (n + 1) m hm2
    have ad1 : zQH (s.extract (n + 1) m) := by
     intro i hi;rw [e1] at hi;rw [zBM s (n + 1) m i (by omega)];exact (hm.2.2.1 (n + 1 + i) (by omega) (by omega)).2
    have hds : (s.extract 0 n ++ s.extract (n + 1) m).size ≤ 400 := by rw [ByteArray.size_append,e0,e1];omega
    have had : zQH (s.extract 0 n ++ s.extract (n + 1) m) := by
     intro i hi;rw [ByteArray.size_append] at hi;rw [zXu];by_cases h : i < (s.extract 0 n).size
     ·rw [if_pos h];exact ad0 i h
     ·rw [if_neg h];exact ad1 _ (by omega)
    obtain ⟨r,r1,r2,r3,r4,r5⟩ := zJb s m (by omega) hm2 (-((m - n - 1 : Nat) : Int)) (s.extract 0 n ++ s.extract (n + 1) m) (by omega);refine ⟨r,r,zWp s n m (by omega) hn _ (fun h => absurd h c0) (fun _ _ _ => ⟨hm,fun h => absurd h cm,fun _ => r1⟩) (fun _ h => absurd cd h),hgo _ true (decide_eq_true cd).symm ?_,rfl,fun _ => ⟨rfl,r3 ▸ had,r3 ▸ hds,r4,r5⟩⟩;(have hw3 : wrap64 (((n + 1 : Nat) : Int) - (m : Int)) = -((m - n - 1 : Nat) : Int) := by rw [wrapB _ (by omega) (by omega)];omega);(have q1 : ¬ (m : Int) = ((n + 1 : Nat) : Int) := by omega);(have q2 : (0 : Int) ≤ ((n + 1 : Nat) : Int) := by omega);(have q3 : ((n + 1 : Nat) : Int) ≤ (m : Int) := by omega);(have q4 : (m : Int) ≤ (s.size : Int) := by omega);(have q5 : (s.extract 0 n).size + (s.extract (n + 1) m).size ≤ 9223372036854775807 := by rw [e0,e1];omega);refine Ev.step (fun k => ?_) (Ev.bind hrd2 (f := fun k t417 => (if t417 = ((n + 1 : Nat) : Int) then (some (s.extract 0 n,(0 : Int),false)) else (if 0 ≤ ((n + 1 : Nat) : Int) then (if ((n + 1 : Nat) : Int) ≤ t417 then (if t417 ≤ (s.size : Int) then (if (s.extract 0 n).size + (s.extract (((n + 1 : Nat) : Int)).toNat (t417 : Int).toNat).size ≤ 9223372036854775807 then (r5_Read.j1 k s t417 (s.extract 0 n ++ (s.extract (((n + 1 : Nat) : Int)).toNat (t417 : Int).toNat)) (wrap64 (((n + 1 : Nat) : Int) - t417))) else (none)) else (none)) else (none)) else (none)))) (Ev.congr (fun k => ?_) r2))
    ·rw [r5_Read.j0,if_pos rfl,hw]
    ·rw [if_neg q1,if_pos q2,if_pos q3,if_pos q4,Int.toNat_natCast,Int.toNat_natCast,if_pos q5,hw3]
  ·obtain ⟨r,r1,r2,r3,r4,r5⟩ := zJb s n (by omega) hn2 0 (s.extract 0 n) (by omega);refine ⟨r,r,zWp s n 0 (by omega) hn _ (fun h => absurd h c0) (fun _ h1 h2 => absurd ⟨h1,h2⟩ cd) (fun _ _ => r1),hgo _ false (decide_eq_false cd).symm ?_,rfl,fun _ => ⟨rfl,r3 ▸ ad0,by rw [r3,e0];omega,r4,r5⟩⟩;refine Ev.step (fun k => ?_) r2;rw [r5_Read.j0,if_neg (by decide)]
end Go.Proofs.YtongfmeediokmaaGreatDoor.Pure
end
section
namespace Go.Proofs.YtongfmeediokmaaGreatDoor.Pure
open Go.RowKit Go.Proofs.YtongfmeediokmaaGreatDoor.Pr Go.Proofs.YtongfmeediokmaaGreatDoorW.PrintWords Go.Proofs.YtongfmeediokmaaGreatDoorW.PrintLast Go.Proofs.YtongfmeediokmaaGreatDoorW.PrintMore
def toD (x : Nat) : List Int := if x = 0 then [] else ((x % 65536 : Nat) : Int) :: toD (x / 65536)
termination_by x
decreasing_by omega
theorem zXp : toD 0 = [] := by rw [toD];rfl
theorem zYi {x : Nat} (h : x ≠ 0) : toD x = ((x % 65536 : Nat) : Int) :: toD (x / 65536) := by rw [toD,if_neg h]
def valD : List Int → Nat
 | [] => 0
 | a :: l => a.toNat + 65536 * valD l
def Digs (l : List Int) : Prop := ∀ x ∈ l,0 ≤ x ∧ x < 65536
theorem zXs (x : Nat) : valD (toD x) = x := by
 induction x using Nat.strongRecOn with
 | _ x ih =>
  by_cases h : x = 0
  ·subst h;rw [zXp];rfl
  ·rw [zYi h,valD,ih (x / 65536) (by omega),Int.toNat_natCast];omega
theorem zXh (x : Nat) : Digs (toD x) := by
 induction x using Nat.strongRecOn with
 | _ x ih =>
  by_cases h : x = 0
  ·subst h;rw [zXp];intro y hy;cases hy
  ·rw [zYi h];intro y hy;rcases List.mem_cons.1 hy with rfl | hy
   ·omega
   ·exact ih (x / 65536) (by omega) y hy
theorem zXo (l m : List Int) : valD (l ++ m) = valD l + 65536 ^ l.length * valD m := by
 induction l with
 | nil => simp [valD]
 | cons a l ih =>
  rw [List.cons_append,valD,valD,ih,List.length_cons,Nat.pow_succ,Nat.mul_add,← Nat.mul_assoc,Nat.mul_comm 65536 (65536 ^ l.length)];omega
theorem zYy {l : List Int} (h : Digs l) : valD l < 65536 ^ l.length := by
 induction l with
 | nil => simp [valD]
 | cons a l ih =>
  have h1 := ih (fun x hx => h x (List.mem_cons_of_mem _ hx));have h2 := h a (List.mem_cons_self ..);rw [valD,List.length_cons,Nat.pow_succ];omega
theorem zHQ {l : List Int} (h : Digs l) (hl : l = [] ∨ l.getLast? ≠ some 0) : toD (valD l) = l := by
 induction l with
 | nil => exact zXp
 | cons a l ih =>
  have h2 := h a (List.mem_cons_self ..);(have hp : Digs l := fun x hx => h x (List.mem_cons_of_mem _ hx));have hlast : (a :: l).getLast? ≠ some 0 := hl.resolve_left (by simp)
  have htl : l = [] ∨ l.getLast? ≠ some 0 := by
   by_cases hn : l = []
   ·exact .inl hn
   ·refine .inr ?_
    cases l with
    | nil => exact absurd rfl hn
    | cons b l => rwa [List.getLast?_cons_cons] at hlast
  have hne : valD (a :: l) ≠ 0 := by
   intro h0;rw [valD] at h0;by_cases hn : l = []
   ·subst hn;simp at hlast;omega
   ·have := ih hp htl;(have h3 : valD l = 0 := by omega);rw [h3,zXp] at this;exact hn this.symm
  rw [zYi hne];(have e1 : (valD (a :: l) % 65536 : Nat) = a.toNat := by rw [valD];omega);(have e2 : valD (a :: l) / 65536 = valD l := by rw [valD];omega);rw [e1,e2,ih hp htl]
  congr 1
  omega
theorem zXV {l m : List Int} (h : Digs l) (g : Digs m) : Digs (l ++ m) := fun x hx => (List.mem_append.1 hx).elim (h x) (g x)
theorem zYf {a : Int} (h : 0 ≤ a ∧ a < 65536) : Digs [a] := fun x hx => by rw [List.mem_singleton.1 hx];exact h
theorem getDD {l : List Int} (hp : Digs l) (i : Nat) : ∃ a : Nat,l.getD i 0 = (a : Int) ∧ a < 65536 ∧ (l.length ≤ i → a = 0) := by
 by_cases h : i < l.length
 ·have := hp (l.getD i 0) (by rw [List.getD_eq_getElem?_getD,List.getElem?_eq_getElem h];exact List.getElem_mem h);exact ⟨(l.getD i 0).toNat,by omega,by omega,fun h2 => by omega⟩
 ·refine ⟨0,?_,by decide,fun _ => rfl⟩;rw [List.getD_eq_getElem?_getD,List.getElem?_eq_none (by omega)]
  rfl
theorem zYv (l : List Int) (i : Nat) (hp : Digs l) : ∃ a : Nat,l.getD i 0 = (a : Int) ∧ a < 65536 ∧ valD (l.drop i) = a + 65536 * valD (l.drop (i + 1)) ∧ (l.length ≤ i → a = 0) := by
 obtain ⟨a,h1,h2,h3⟩ := getDD hp i;refine ⟨a,h1,h2,?_,h3⟩;by_cases h : i < l.length
 ·rw [List.drop_eq_getElem_cons h,valD]
  have : l[i] = (a : Int) := by
   rw [← h1,List.getD_eq_getElem?_getD,List.getElem?_eq_getElem h]
   rfl
  rw [this,Int.toNat_natCast]
 ·rw [List.drop_eq_nil_of_le (by omega),List.drop_eq_nil_of_le (by omega),h3 (by omega)]
  rfl
theorem zZd {l : List Int} {i : Nat} (h : i < l.length) : valD (l.take (i + 1)) = valD (l.take i) + 65536 ^ i * (l.getD i 0).toNat := by
 rw [List.take_succ_eq_append_getElem h,zXo,List.length_take,Nat.min_eq_left (Nat.le_of_lt h),List.getD_eq_getElem?_getD,List.getElem?_eq_getElem h];simp [valD]
theorem zYn {l : List Int} (hp : Digs l) (i : Nat) : valD (l.take i) < 65536 ^ i := by
 have := zYy (l := l.take i) (fun x hx => hp x (List.mem_of_mem_take hx));refine Nat.lt_of_lt_of_le this (Nat.pow_le_pow_right (by decide) ?_);rw [List.length_take];exact Nat.min_le_left ..
theorem zWb (l : List Int) (hp : Digs l) (hl : l.length ≤ 1000000) : ∀ i,i ≤ l.length → Ev (fun k => r1_Trim.l0 k l (i : Int)) (toD (valD (l.take i)))
 | 0,_ => by
  rw [List.take_zero];refine Ev.step (f := fun _ => some []) (fun k => ?_) (by rw [show valD [] = 0 from rfl,zXp];exact Ev.now _);rw [r1_Trim.l0,if_neg (by omega),Option.bind_some,if_pos (by omega),if_pos (by omega)];simp
 | i + 1,hi => by
  obtain ⟨a,h1,h2,_⟩ := getDD hp i;(have hw : wrap64 (((i + 1 : Nat) : Int) - 1) = (i : Int) := by rw [wrapB _ (by omega) (by omega)];omega);by_cases h0 : a = 0
  ·have ih := zWb l hp hl i (by omega);(have e : valD (l.take (i + 1)) = valD (l.take i) := by rw [zZd (by omega),h1,h0];simp);rw [e];refine Ev.step (fun k => ?_) ih;rw [r1_Trim.l0,if_pos (by omega),hw,if_pos (by omega),if_pos (by omega),zYa,if_pos (by omega)]
  ·have e : toD (valD (l.take (i + 1))) = l.take (i + 1) := by
    refine zHQ (fun x hx => hp x (List.mem_of_mem_take hx)) (.inr ?_);rw [List.take_succ_eq_append_getElem (by omega),List.getLast?_append]
    have : l[i]'(by omega) = (a : Int) := by
     rw [← h1,List.getD_eq_getElem?_getD,List.getElem?_eq_getElem (by omega)]
     rfl
    rw [this];simp;omega
   rw [e];refine Ev.step (f := fun _ => some (l.take (i + 1))) (fun k => ?_) (Ev.now _);rw [r1_Trim.l0,if_pos (by omega),hw,if_pos (by omega),if_pos (by omega),zYa,if_neg (by omega),Option.bind_some,if_pos (by omega),if_pos (by omega),Int.toNat_natCast,if_pos (by rw [List.length_take];simp;omega)]
   rfl
theorem zYC (l : List Int) (hp : Digs l) (hl : l.length ≤ 1000000) : Ev (fun k => r1_Trim.f k l) (toD (valD l)) := by
 have := zWb l hp hl l.length (Nat.le_refl _);rw [List.take_length] at this;exact this
theorem zYj (l : List Int) (i : Nat) : r1_at.f l (i : Int) = some (l.getD i 0) := by
 unfold r1_at.f;by_cases h : i < l.length
 ·rw [if_pos (by omega),if_pos (by omega),zYa]
 ·rw [if_neg (by omega),List.getD_eq_getElem?_getD,List.getElem?_eq_none (by omega)]
  rfl
theorem zWC (l m : List Int) : r1_most.f l m = some ((max l.length m.length : Nat) : Int) := by
 unfold r1_most.f;by_cases h : (l.length : Int) > (m.length : Int)
 ·rw [if_pos h,Nat.max_eq_left (by omega)]
 ·rw [if_neg h,Nat.max_eq_right (by omega)]
theorem zGy (a : Nat) (h : a < 18446744073709551616) : Go.bits .and .u64 (a : Int) 65535 = ((a % 65536 : Nat) : Int) := by
 have := zYo a 65535 h (by decide);rw [show (65535 : Nat) = 2 ^ 16 - 1 from rfl,Nat.and_two_pow_sub_one_eq_mod] at this;exact this
theorem zJg (l m : List Int) (hp : Digs l) (hm : Digs m) (hl : l.length ≤ 900000) (hml : m.length ≤ 900000) : ∀ (d i : Nat) (acc : List Int) (c : Nat),i + d = max l.length m.length → acc.length = i → Digs acc → c ≤ 1 →
  Ev (fun k => r1_Sum.l0 k l m acc (c : Int) (i : Int)) (toD (valD acc + 65536 ^ i * (valD (l.drop i) + valD (m.drop i) + c)))
 | 0,i,acc,c,hi,ha,hpa,hc => by
  have hd : l.drop i = [] := List.drop_eq_nil_of_le (by omega);have hd2 : m.drop i = [] := List.drop_eq_nil_of_le (by omega)
  have hv : valD acc + 65536 ^ i * (valD (l.drop i) + valD (m.drop i) + c) = valD (acc ++ [(c : Int)]) := by
   rw [hd,hd2,zXo,ha];simp [valD]
  rw [hv];have ht := zYC (acc ++ [(c : Int)]) (zXV hpa (zYf (by omega))) (by rw [List.length_append,List.length_singleton];omega);refine Ev.step (fun k => ?_) (Ev.bind ht (Ev.now _));rw [r1_Sum.l0,zWC,Option.bind_some,if_neg (by omega),if_pos (by omega)]
 | d + 1,i,acc,c,hi,ha,hpa,hc => by
  obtain ⟨a,ga,ha2,hL,_⟩ := zYv l i hp;obtain ⟨b,gb,hb2,hM,_⟩ := zYv m i hm;have ih := zJg l m hp hm hl hml d (i + 1) (acc ++ [(((a + b + c) % 65536 : Nat) : Int)]) ((a + b + c) / 65536) (by omega) (by rw [List.length_append,List.length_singleton];omega) (zXV hpa (zYf (by omega))) (by omega)
  have hv : valD acc + 65536 ^ i * (valD (l.drop i) + valD (m.drop i) + c) = valD (acc ++ [(((a + b + c) % 65536 : Nat) : Int)]) + 65536 ^ (i + 1) * (valD (l.drop (i + 1)) + valD (m.drop (i + 1)) + (a + b + c) / 65536) := by
   rw [zXo,ha,hL,hM,Nat.pow_succ,Nat.mul_assoc,Nat.add_assoc (valD acc),← Nat.mul_add];simp only [valD,Nat.mul_zero,Nat.add_zero,Int.toNat_natCast]
   congr 2
   omega
  rw [hv];refine Ev.step (fun k => ?_) ih;rw [r1_Sum.l0,zWC,Option.bind_some,if_pos (by omega),zYj,Option.bind_some,zYj,Option.bind_some,if_pos (by omega),ga,gb,show ((a : Int) + (b : Int)) = ((a + b : Nat) : Int) by push_cast;rfl,u64_in (a + b) (by omega),show (((a + b : Nat) : Int) + (c : Int)) = ((a + b + c : Nat) : Int) by push_cast;rfl,u64_in (a + b + c) (by omega),zGy _ (by omega),wrapB _ (by omega) (by omega)];simp only [Int.natCast_emod,Int.natCast_ediv,Int.natCast_add,Int.natCast_one]
  rfl
theorem zVE (l m : List Int) (hp : Digs l) (hm : Digs m) (hl : l.length ≤ 900000) (hml : m.length ≤ 900000) : Ev (fun k => r1_Sum.f k l m) (toD (valD l + valD m)) := by
 have g := zJg l m hp hm hl hml (max l.length m.length) 0 [] 0 (by omega) rfl (fun y hy => by cases hy) (by omega);rw [List.drop_zero,List.drop_zero,Nat.pow_zero,Nat.one_mul] at g;(have e : valD [] + (valD l + valD m + 0) = valD l + valD m := by simp [valD]);rw [e] at g;exact g
theorem zYZ (l m : List Int) (hp : Digs l) (hm : Digs m) (hl : l.length ≤ 900000) : ∀ (d i : Nat) (acc : List Int) (c : Nat),i + d = l.length → acc.length = i → Digs acc → c ≤ 1 → valD (m.drop i) + c ≤ valD (l.drop i) →
  Ev (fun k => r1_Minus.l0 k l m acc (c : Int) (i : Int)) (toD (valD acc + 65536 ^ i * (valD (l.drop i) - valD (m.drop i) - c)))
 | 0,i,acc,c,hi,ha,hpa,hc,hle => by
  have hd : l.drop i = [] := List.drop_eq_nil_of_le (by omega);rw [hd] at hle ⊢;(have e : valD ([] : List Int) - valD (m.drop i) - c = 0 := by simp [valD]);rw [e,Nat.mul_zero,Nat.add_zero];refine Ev.step (fun k => ?_) (Ev.bind (zYC acc hpa (by omega)) (Ev.now _));rw [r1_Minus.l0,if_neg (by omega)]
 | d + 1,i,acc,c,hi,ha,hpa,hc,hle => by
  obtain ⟨a,ga,ha2,hL,_⟩ := zYv l i hp;obtain ⟨b,gb,hb2,hM,_⟩ := zYv m i hm;obtain ⟨L,hLe⟩ : ∃ L,L = valD (l.drop (i + 1)) := ⟨_,rfl⟩;obtain ⟨M,hMe⟩ : ∃ M,M = valD (m.drop (i + 1)) := ⟨_,rfl⟩;rw [hL,hM,← hLe,← hMe] at hle ⊢;(have hbc : IntKind.u64.wrap ((b : Int) + (c : Int)) = ((b + c : Nat) : Int) := by rw [show ((b : Int) + (c : Int)) = ((b + c : Nat) : Int) by push_cast;rfl,u64_in _ (by omega)]);by_cases h : a < b + c
  ·have ih := zYZ l m hp hm hl d (i + 1) (acc ++ [((a + 65536 - b - c : Nat) : Int)]) 1 (by omega) (by rw [List.length_append,List.length_singleton];omega) (zXV hpa (zYf (by omega))) (by omega) (by rw [← hLe,← hMe];omega);rw [← hLe,← hMe] at ih
   have hv : valD acc + 65536 ^ i * (a + 65536 * L - (b + 65536 * M) - c) = valD (acc ++ [((a + 65536 - b - c : Nat) : Int)]) + 65536 ^ (i + 1) * (L - M - 1) := by
    rw [zXo,ha,Nat.pow_succ,Nat.mul_assoc,Nat.add_assoc,← Nat.mul_add];simp only [valD,Nat.mul_zero,Nat.add_zero,Int.toNat_natCast]
    congr 2
    omega
   rw [hv];refine Ev.step (fun k => ?_) ih;have hw1 : IntKind.u64.wrap ((a : Int) + 65536) = ((a + 65536 : Nat) : Int) := u64_in (a + 65536) (by omega);(have hw2 : IntKind.u64.wrap (((a + 65536 : Nat) : Int) - ((b + c : Nat) : Int)) = ((a + 65536 - b - c : Nat) : Int) := by rw [show (((a + 65536 : Nat) : Int) - ((b + c : Nat) : Int)) = ((a + 65536 - b - c : Nat) : Int) by omega,u64_in _ (by omega)]);rw [r1_Minus.l0,if_pos (by omega),if_pos (by omega),zYj,Option.bind_some,gb,hbc,zYa,ga,if_pos (by omega),if_pos (by omega),hw1,hw2,wrapB _ (by omega) (by omega)]
   rfl
  ·have ih := zYZ l m hp hm hl d (i + 1) (acc ++ [((a - b - c : Nat) : Int)]) 0 (by omega) (by rw [List.length_append,List.length_singleton];omega) (zXV hpa (zYf (by omega))) (by omega) (by rw [← hLe,← hMe];omega);rw [← hLe,← hMe] at ih
   have hv : valD acc + 65536 ^ i * (a + 65536 * L - (b + 65536 * M) - c) = valD (acc ++ [((a - b - c : Nat) : Int)]) + 65536 ^ (i + 1) * (L - M - 0) := by
    rw [zXo,ha,Nat.pow_succ,Nat.mul_assoc,Nat.add_assoc,← Nat.mul_add];simp only [valD,Nat.mul_zero,Nat.add_zero,Int.toNat_natCast]
    congr 2
    omega
   rw [hv];refine Ev.step (fun k => ?_) ih;(have hw2 : IntKind.u64.wrap ((a : Int) - ((b + c : Nat) : Int)) = ((a - b - c : Nat) : Int) := by rw [show ((a : Int) - ((b + c : Nat) : Int)) = ((a - b - c : Nat) : Int) by omega,u64_in _ (by omega)]);rw [r1_Minus.l0,if_pos (by omega),if_pos (by omega),zYj,Option.bind_some,gb,hbc,zYa,ga,if_neg (by omega),if_pos (by omega),hw2,wrapB _ (by omega) (by omega)]
   rfl
theorem zVG (l m : List Int) (hp : Digs l) (hm : Digs m) (hl : l.length ≤ 900000) (h : valD m ≤ valD l) : Ev (fun k => r1_Minus.f k l m) (toD (valD l - valD m)) := by
 have g := zYZ l m hp hm hl l.length 0 [] 0 (by omega) rfl (fun y hy => by cases hy) (by omega) (by rw [List.drop_zero,List.drop_zero];omega);rw [List.drop_zero,List.drop_zero,Nat.pow_zero,Nat.one_mul] at g;(have e : valD [] + (valD l - valD m - 0) = valD l - valD m := by simp [valD]);rw [e] at g;exact g
theorem zJm (l m : List Int) (hp : Digs l) (hm : Digs m) : ∀ i : Nat,i ≤ 900000 → ∃ c : Int,Ev (fun k => r1_Cmp.l0 k l m ((i : Int) - 1)) c ∧ (c ≥ 0 ↔ valD (m.take i) ≤ valD (l.take i))
 | 0,_ => by
  refine ⟨0,Ev.step (f := fun _ => some 0) (fun k => ?_) (Ev.now _),by simp [valD]⟩;rw [r1_Cmp.l0,if_neg (by omega)]
 | i + 1,hi => by
  obtain ⟨a,ga,ha2,ha3⟩ := getDD hp i;obtain ⟨b,gb,hb2,hb3⟩ := getDD hm i
  have tk : ∀ (l : List Int) (a : Nat),l.getD i 0 = (a : Int) → (l.length ≤ i → a = 0) → valD (l.take (i + 1)) = valD (l.take i) + 65536 ^ i * a := by
   intro l a g g0;by_cases h : i < l.length
   ·rw [zZd h,g,Int.toNat_natCast]
   ·rw [List.take_of_length_le (by omega),List.take_of_length_le (by omega),g0 (by omega),Nat.mul_zero,Nat.add_zero]
  have e1 := tk l a ga ha3;have e2 := tk m b gb hb3;have t1 := zYn hp i;have t2 := zYn hm i;(have hk : ((i + 1 : Nat) : Int) - 1 = (i : Int) := by omega);rw [hk,e1,e2];obtain ⟨P,hP⟩ : ∃ P,P = 65536 ^ i := ⟨_,rfl⟩;rw [← hP] at t1 t2 ⊢;by_cases hlt : a < b
  ·refine ⟨-1,Ev.step (f := fun _ => some (-1)) (fun k => ?_) (Ev.now _),?_⟩
   ·rw [r1_Cmp.l0,if_pos (by omega),zYj,Option.bind_some,zYj,Option.bind_some,ga,gb,if_pos (by omega)]
   ·have : P * (a + 1) ≤ P * b := Nat.mul_le_mul_left _ hlt;rw [Nat.mul_succ] at this;omega
  ·by_cases hgt : b < a
   ·refine ⟨1,Ev.step (f := fun _ => some 1) (fun k => ?_) (Ev.now _),?_⟩
    ·rw [r1_Cmp.l0,if_pos (by omega),zYj,Option.bind_some,zYj,Option.bind_some,ga,gb,if_neg (by omega)];simp only [Option.bind_some];rw [if_pos (by omega)]
    ·have : P * (b + 1) ≤ P * a := Nat.mul_le_mul_left _ hgt;rw [Nat.mul_succ] at this;omega
   ·(obtain rfl : a = b := by omega);obtain ⟨c,hc,c1⟩ := zJm l m hp hm i (by omega);refine ⟨c,Ev.step (fun k => ?_) hc,?_⟩
    ·rw [r1_Cmp.l0,if_pos (by omega),zYj,Option.bind_some,zYj,Option.bind_some,ga,gb,if_neg (by omega)];simp only [Option.bind_some];rw [if_neg (by omega),wrapB _ (by omega) (by omega)]
    ·rw [c1];omega
theorem zFc (l m : List Int) (hp : Digs l) (hm : Digs m) (hl : l.length ≤ 900000) (hml : m.length ≤ 900000) : ∃ c : Int,Ev (fun k => r1_Cmp.f k l m) c ∧ (c ≥ 0 ↔ valD m ≤ valD l) := by
 obtain ⟨c,hc,c1⟩ := zJm l m hp hm (max l.length m.length) (by omega);rw [List.take_of_length_le (by omega),List.take_of_length_le (by omega)] at c1;refine ⟨c,Ev.congr (fun k => ?_) hc,c1⟩;unfold r1_Cmp.f;rw [zWC,Option.bind_some,wrapB _ (by omega) (by omega)]
theorem zKH (n : Nat) : 0 < (65536 : Nat) ^ n := Nat.pow_pos (by decide)
theorem zXw (n : Nat) : (65536 : Nat) ^ n = 2 ^ (16 * n) := by rw [Nat.pow_mul]
theorem zWx (l : List Int) (i : Nat) (v : Nat) (h : i < l.length) (o : Nat) (ho : l.getD i 0 = (o : Int)) : valD (l.set i (v : Int)) + 65536 ^ i * o = valD l + 65536 ^ i * v := by
 have e1 : l = l.take i ++ (o : Int) :: l.drop (i + 1) := by
  have : l[i] = (o : Int) := by
   rw [← ho,List.getD_eq_getElem?_getD,List.getElem?_eq_getElem h]
   rfl
  rw [← this,← List.drop_eq_getElem_cons h,List.take_append_drop]
 have e2 : l.set i (v : Int) = l.take i ++ (v : Int) :: l.drop (i + 1) := List.set_eq_take_append_cons_drop .. |>.trans (by rw [if_pos h])
 have e3 : valD l = valD (l.take i) + 65536 ^ i * (o + 65536 * valD (l.drop (i + 1))) := by
  (conv => lhs;rw [e1]);rw [zXo,List.length_take,Nat.min_eq_left (Nat.le_of_lt h),valD,Int.toNat_natCast]
 rw [e2,e3,zXo,List.length_take,Nat.min_eq_left (Nat.le_of_lt h),valD,Int.toNat_natCast,Nat.mul_add,Nat.mul_add];omega
theorem zWO {l : List Int} (h : Digs l) (i : Nat) {v : Int} (hv : 0 ≤ v ∧ v < 65536) : Digs (l.set i v) := fun x hx => (List.mem_or_eq_of_mem_set hx).elim (h x) (fun e => e ▸ hv)
theorem getD_set_ne (l : List Int) (i j : Nat) (v : Int) (h : i ≠ j) : (l.set i v).getD j 0 = l.getD j 0 := by
 rw [List.getD_eq_getElem?_getD,List.getElem?_set_ne h,← List.getD_eq_getElem?_getD]
theorem zYu (i : Nat) (h : i ≤ 1000000000) : wrap64 ((i : Int) + 1) = ((i + 1 : Nat) : Int) := by rw [wrapB _ (by omega) (by omega)];omega
theorem wrap_add (i q : Nat) (h : i + q ≤ 1000000000) : wrap64 ((i : Int) + (q : Int)) = ((i + q : Nat) : Int) := by rw [wrapB _ (by omega) (by omega)];omega
theorem zVg : ∀ z : Nat,z % 2 = 0 → z < 2 → z = 0 := by omega
theorem zFi {a b : Nat} (ha : a < 65536) (hb : b < 65536) : a * b ≤ 4294836225 := by
 have : a * b ≤ 65535 * 65535 := Nat.mul_le_mul (by omega) (by omega);omega
theorem zBu (l m : List Int) (hp : Digs l) (hm : Digs m) (hl : l.length ≤ 400000) (hml : m.length ≤ 400000) (i a : Nat) (hi : i < l.length) (ha : l.getD i 0 = (a : Int)) (ha2 : a < 65536) (V : Nat) (r : List Int)
  (hend : ∀ out : List Int,out.length = l.length + m.length → Digs out → (∀ j,i + m.length < j → out.getD j 0 = 0) → valD out = V + 65536 ^ i * (a * valD m) → Ev (fun k => r1_Product.l0 k l m out ((i + 1 : Nat) : Int)) r) :
  ∀ (d q : Nat) (out : List Int) (c : Nat),q + d = m.length → c < 65536 → out.length = l.length + m.length → Digs out → (∀ j,i + m.length ≤ j → out.getD j 0 = 0) → valD out + 65536 ^ (i + q) * c = V + 65536 ^ i * (a * valD (m.take q)) →
  Ev (fun k => r1_Product.l1 k l m out (i : Int) (c : Int) (q : Int)) r
 | 0,q,out,c,hq,hc,hol,hod,hoz,hv => by
  (obtain rfl : q = m.length := by omega);rw [List.take_length] at hv;have hs := zWx out (i + m.length) c (by omega) 0 (by rw [hoz _ (Nat.le_refl _)];rfl);have g := hend (out.set (i + m.length) (c : Int)) (by rw [List.length_set];exact hol) (zWO hod _ (by omega)) (fun j hj => by rw [getD_set_ne _ _ _ _ (by omega)];exact hoz j (by omega)) (by omega);(have b1 : i + m.length ≤ 1000000000 := by omega);(have b2 : i ≤ 1000000000 := by omega);have hw := wrap_add i m.length b1;have w1 := zYu i b2
  have q1 : ¬ ((m.length : Nat) : Int) < ((m.length : Nat) : Int) := Int.lt_irrefl _
  have q2 : (0 : Int) ≤ ((i + m.length : Nat) : Int) := Int.natCast_nonneg _
  have q3 : ((i + m.length : Nat) : Int) < ((out.length : Nat) : Int) := Int.ofNat_lt.2 (by rw [hol];exact Nat.add_lt_add_right hi _);refine Ev.step (fun k => ?_) g;rw [r1_Product.l1,if_neg q1,hw,if_pos q2,if_pos q3,Int.toNat_natCast,w1]
 | d + 1,q,out,c,hq,hc,hol,hod,hoz,hv => by
  obtain ⟨b,gb,hb2,_⟩ := getDD hm q;obtain ⟨o,go,ho2,_⟩ := getDD hod (i + q);have hmul := zFi ha2 hb2;have ht := zZd (l := m) (i := q) (by omega);rw [gb,Int.toNat_natCast] at ht;have hs := zWx out (i + q) ((o + a * b + c) % 65536) (by omega) o go;have hpow : 65536 ^ (i + (q + 1)) = 65536 ^ (i + q) * 65536 := by rw [← Nat.add_assoc,Nat.pow_succ]
  have hval : valD (out.set (i + q) (((o + a * b + c) % 65536 : Nat) : Int)) + 65536 ^ (i + (q + 1)) * ((o + a * b + c) / 65536) = V + 65536 ^ i * (a * valD (m.take (q + 1))) := by
   rw [ht,hpow,Nat.mul_assoc];obtain ⟨P,hP⟩ : ∃ P,P = 65536 ^ (i + q) := ⟨_,rfl⟩;rw [← hP] at hs hv ⊢
   have e1 : 65536 ^ i * (a * (valD (m.take q) + 65536 ^ q * b)) = 65536 ^ i * (a * valD (m.take q)) + P * (a * b) := by
    rw [hP,Nat.pow_add,Nat.mul_add,Nat.mul_add]
    congr 1
    simp only [Nat.mul_assoc,Nat.mul_comm,Nat.mul_left_comm]
   rw [e1]
   have e2 : P * ((o + a * b + c) % 65536) + P * (65536 * ((o + a * b + c) / 65536)) = P * o + P * (a * b) + P * c := by
    rw [← Nat.mul_add,Nat.mod_add_div,Nat.mul_add,Nat.mul_add]
   omega
  have ih := zBu l m hp hm hl hml i a hi ha ha2 V r hend d (q + 1) (out.set (i + q) (((o + a * b + c) % 65536 : Nat) : Int)) ((o + a * b + c) / 65536) (by omega) (by omega) (by rw [List.length_set];exact hol) (zWO hod _ (by omega))
   (fun j hj => by rw [getD_set_ne _ _ _ _ (by omega)];exact hoz j hj) hval
  have q1 : ((q : Nat) : Int) < ((m.length : Nat) : Int) := Int.ofNat_lt.2 (by omega)
  have q2 : (0 : Int) ≤ ((i + q : Nat) : Int) := Int.natCast_nonneg _
  have q3 : ((i + q : Nat) : Int) < ((out.length : Nat) : Int) := Int.ofNat_lt.2 (by omega)
  have q4 : (0 : Int) ≤ ((i : Nat) : Int) := Int.natCast_nonneg _
  have q5 : ((i : Nat) : Int) < ((l.length : Nat) : Int) := Int.ofNat_lt.2 hi
  have q6 : (0 : Int) ≤ ((q : Nat) : Int) := Int.natCast_nonneg _
  (have q7 : o + a * b + c < 18446744073709551616 := by omega);(have q8 : a * b < 18446744073709551616 := by omega);(have q9 : o + a * b < 18446744073709551616 := by omega);(have b1 : i + q ≤ 1000000000 := by omega);(have b2 : q ≤ 1000000000 := by omega);have hw := wrap_add i q b1;have w1 := zYu q b2;refine Ev.step (fun k => ?_) ih
  have hx : IntKind.u64.wrap ((IntKind.u64.wrap ((rd out ((i + q : Nat) : Int)) + (IntKind.u64.wrap ((rd l (i : Int)) * (rd m (q : Int)))))) + (c : Int)) = ((o + a * b + c : Nat) : Int) := by
   rw [zYa,zYa,zYa,go,ha,gb,show ((a : Int) * (b : Int)) = ((a * b : Nat) : Int) by push_cast;rfl,u64_in (a * b) q8,show ((o : Int) + ((a * b : Nat) : Int)) = ((o + a * b : Nat) : Int) by push_cast;rfl,u64_in (o + a * b) q9,show (((o + a * b : Nat) : Int) + (c : Int)) = ((o + a * b + c : Nat) : Int) by push_cast;rfl,u64_in _ q7]
  rw [r1_Product.l1,if_pos q1,hw,if_pos q2,if_pos q3,if_pos q4,if_pos q5,if_pos q6,hx,zGy _ q7,Int.toNat_natCast,w1]
  rfl
theorem zJp (l m : List Int) (hp : Digs l) (hm : Digs m) (hl : l.length ≤ 400000) (hml : m.length ≤ 400000) : ∀ (d i : Nat) (out : List Int),i + d = l.length → out.length = l.length + m.length → Digs out → (∀ j,i + m.length ≤ j → out.getD j 0 = 0) → valD out = valD (l.take i) * valD m →
  Ev (fun k => r1_Product.l0 k l m out (i : Int)) (toD (valD l * valD m))
 | 0,i,out,hi,hol,hod,hoz,hv => by
  (obtain rfl : i = l.length := by omega);rw [List.take_length] at hv;refine Ev.step (fun k => ?_) (Ev.bind (f := fun _ t => some t) (hv ▸ zYC out hod (by omega)) (Ev.now _));rw [r1_Product.l0,if_neg (by omega)]
 | d + 1,i,out,hi,hol,hod,hoz,hv => by
  obtain ⟨a,ga,ha2,_⟩ := getDD hp i;have ht := zZd (l := l) (i := i) (by omega);rw [ga,Int.toNat_natCast] at ht
  have hrow := zBu l m hp hm hl hml i a (by omega) ga ha2 (valD out) (toD (valD l * valD m))
   (fun out' h1 h2 h3 h4 => zJp l m hp hm hl hml d (i + 1) out' (by omega) h1 h2 (fun j hj => h3 j (by omega)) (by rw [h4,ht,hv,Nat.add_mul,Nat.mul_assoc]))
   m.length 0 out 0 (by omega) (by omega) hol hod hoz (by simp [valD])
  refine Ev.step (fun k => ?_) hrow;rw [r1_Product.l0,if_pos (by omega)]
  rfl
theorem zZw (n : Nat) : Digs (List.replicate n (0 : Int)) := fun x hx => by rw [List.eq_of_mem_replicate hx];omega
theorem zZb : ∀ n,valD (List.replicate n (0 : Int)) = 0
 | 0 => rfl
 | n + 1 => by rw [List.replicate_succ,valD,zZb n];rfl
theorem zZk (l m : List Int) (hp : Digs l) (hm : Digs m) (hl : l.length ≤ 400000) (hml : m.length ≤ 400000) : Ev (fun k => r1_Product.f k l m) (toD (valD l * valD m)) := by
 have h := zJp l m hp hm hl hml l.length 0 (List.replicate (l.length + m.length) 0) (by omega) (List.length_replicate ..) (zZw _) (fun j _ => by
   rw [List.getD_eq_getElem?_getD];by_cases hj : j < l.length + m.length
   ·rw [List.getElem?_replicate_of_lt hj];rfl
   ·rw [List.getElem?_eq_none (by rw [List.length_replicate];omega)];rfl) (by rw [zZb];simp [valD])
 (have hw : wrap64 ((l.length : Int) + (m.length : Int)) = ((l.length + m.length : Nat) : Int) := by rw [wrapB _ (by omega) (by omega)];omega);refine Ev.congr (fun k => ?_) h;unfold r1_Product.f;rw [hw,if_pos (by omega),if_pos (by omega),Int.toNat_natCast]
 rfl
theorem zVD (l : List Int) (hp : Digs l) (n : Nat) (hl : l.length + n ≤ 300000) : Ev (fun k => r1_Up.f k l (n : Int)) (toD (valD l * 2 ^ n)) := by
 (have hq : Int.tdiv (n : Int) 16 = ((n / 16 : Nat) : Int) := by rw [Int.tdiv_eq_ediv_of_nonneg (by omega)];omega);(have hr : Int.tmod (n : Int) 16 = ((n % 16 : Nat) : Int) := by rw [Int.tmod_eq_emod_of_nonneg (by omega)];omega);have hlt : 2 ^ (n % 16) < 65536 := Nat.lt_of_lt_of_le (Nat.pow_lt_pow_right (by decide) (Nat.mod_lt n (by decide : 0 < 16))) (Nat.le_refl _)
 have hsh : shl .u64 1 ((n % 16 : Nat) : Int) = ((2 ^ (n % 16) : Nat) : Int) := by
  have h9 := zZA 1 (n % 16) (by omega);rw [Nat.one_mul,Nat.mod_eq_of_lt (Nat.lt_of_lt_of_le hlt (by decide))] at h9;exact h9
 have hone : Digs [((2 ^ (n % 16) : Nat) : Int)] := zYf ⟨Int.natCast_nonneg _,Int.ofNat_lt.2 hlt⟩;have hz : Digs (List.replicate (n / 16) 0 ++ l) := zXV (zZw _) hp;(have hzl : (List.replicate (n / 16) (0 : Int) ++ l).length ≤ 400000 := by rw [List.length_append,List.length_replicate];omega);have hpr := zZk (List.replicate (n / 16) 0 ++ l) [((2 ^ (n % 16) : Nat) : Int)] hz hone hzl (show 1 ≤ 400000 by decide)
 have hval : valD (List.replicate (n / 16) 0 ++ l) * valD [((2 ^ (n % 16) : Nat) : Int)] = valD l * 2 ^ n := by
  rw [zXo,zZb,List.length_replicate];simp only [valD,Nat.zero_add,Nat.mul_zero,Nat.add_zero,Int.toNat_natCast];rw [zXw,Nat.mul_comm (2 ^ (16 * (n / 16))),Nat.mul_assoc,← Nat.pow_add]
  congr 2
  omega
 rw [hval] at hpr
 have hlen : (toD (valD l * 2 ^ n)).length ≤ 1000000 := by
  have hL : ∀ (L x : Nat),x < 65536 ^ L → (toD x).length ≤ L := by
   intro L
   induction L with
   | zero =>
    intro x h;(have hx0 : x = 0 := by rw [Nat.pow_zero] at h;omega);rw [hx0,zXp]
    exact Nat.le_refl _
   | succ L ih =>
    intro x h;by_cases h0 : x = 0
    ·rw [h0,zXp];exact Nat.zero_le _
    ·rw [zYi h0,List.length_cons]
     have : x / 65536 < 65536 ^ L := by
      rw [Nat.pow_succ] at h;exact Nat.div_lt_of_lt_mul (by rw [Nat.mul_comm];exact h)
     have := ih _ this;omega
  refine Nat.le_trans (hL (l.length + n) _ ?_) (by omega);rw [Nat.pow_add];exact Nat.mul_lt_mul_of_lt_of_le (zYy hp) (Nat.pow_le_pow_left (by decide) n) (Nat.pow_pos (by decide))
 have htr := zYC _ (zXh (valD l * 2 ^ n)) hlen;rw [zXs] at htr;have hb : Ev (fun k => (r1_Product.f k (List.replicate (n / 16) 0 ++ l) [((2 ^ (n % 16) : Nat) : Int)]).bind fun t => (r1_Trim.f k t).bind fun u => some u) (toD (valD l * 2 ^ n)) := Ev.bind hpr (Ev.bind htr (Ev.now _));refine Ev.congr (fun k => ?_) hb;unfold r1_Up.f;rw [hq,hr,wrapB _ (by omega) (by omega),if_pos (by omega),if_pos (by omega),Option.bind_some,Int.toNat_natCast,u64_in _ (by omega),if_pos (by rw [List.length_replicate];omega),if_pos (by omega),hsh]
theorem zWE (l : List Int) (hp : Digs l) (i : Nat) (hi : i ≤ 100000000) : r1_Bit.f l (i : Int) = some ((valD l / 2 ^ i % 2 : Nat) : Int) := by
 (have hq : Int.tdiv (i : Int) 16 = ((i / 16 : Nat) : Int) := by rw [Int.tdiv_eq_ediv_of_nonneg (by omega)];omega);(have hr : Int.tmod (i : Int) 16 = ((i % 16 : Nat) : Int) := by rw [Int.tmod_eq_emod_of_nonneg (by omega)];omega);obtain ⟨a,ga,ha2,_⟩ := getDD hp (i / 16);have hrl : i % 16 < 16 := Nat.mod_lt _ (by decide)
 have hbit : a / 2 ^ (i % 16) % 2 = valD l / 2 ^ i % 2 := by
  obtain ⟨a',ga',_,hd,_⟩ := zYv l (i / 16) hp;obtain rfl : a = a' := by rw [ga] at ga';omega
  have hsplit : valD l = valD (l.take (i / 16)) + 65536 ^ (i / 16) * valD (l.drop (i / 16)) := by
   by_cases h : i / 16 ≤ l.length
   ·have := zXo (l.take (i / 16)) (l.drop (i / 16));rw [List.take_append_drop,List.length_take,Nat.min_eq_left h] at this;exact this
   ·rw [List.take_of_length_le (by omega),List.drop_eq_nil_of_le (by omega)];simp [valD]
  have hlow := zYn hp (i / 16)
  have hdiv : valD l / 2 ^ (16 * (i / 16)) = valD (l.drop (i / 16)) := by
   rw [← zXw,hsplit,Nat.add_mul_div_left _ _ (zKH _),Nat.div_eq_of_lt hlow,Nat.zero_add]
  (have hi2 : i = 16 * (i / 16) + i % 16 := by omega);(conv => rhs;rw [hi2]);rw [Nat.pow_add,← Nat.div_div_eq_div_mul,hdiv,hd];obtain ⟨j,hj⟩ : ∃ j,16 = i % 16 + 1 + j := ⟨16 - (i % 16 + 1),by omega⟩
  have e16 : (65536 : Nat) = 2 ^ (i % 16) * (2 * 2 ^ j) := by
   rw [← Nat.mul_assoc,← Nat.pow_succ,← Nat.pow_add,← hj]
  rw [e16,Nat.mul_assoc,Nat.add_mul_div_left _ _ (Nat.two_pow_pos _),Nat.mul_assoc,Nat.add_mul_mod_self_left]
 unfold r1_Bit.f;have hsr := zVB a (i % 16) (by omega);have hdl : a / 2 ^ (i % 16) < 18446744073709551616 := Nat.lt_of_le_of_lt (Nat.div_le_self ..) (by omega)
 have hand : Go.bits .and .u64 ((a / 2 ^ (i % 16) : Nat) : Int) 1 = ((a / 2 ^ (i % 16) % 2 : Nat) : Int) := by
  have := zYo (a / 2 ^ (i % 16)) 1 hdl (by decide);rw [show (1 : Nat) = 2 ^ 1 - 1 from rfl,Nat.and_two_pow_sub_one_eq_mod] at this;exact this
 rw [hq,hr,wrapB _ (by omega) (by omega),zYj,Option.bind_some,u64_in _ (by omega),if_pos (by omega),ga,hsr,hand,hbit]
theorem zJh (l : List Int) (hp : Digs l) : ∀ n : Nat,n ≤ 100000000 → valD l < 2 ^ n → ∃ L : Nat,L ≤ n ∧ LenIs (valD l) L ∧ Ev (fun k => r1_Len.l0 k l (n : Int)) (L : Int)
 | 0,_,h => by
  rw [Nat.pow_zero] at h;refine ⟨0,Nat.le_refl _,⟨fun _ => rfl,fun h0 => absurd (by omega) h0⟩,Ev.step (f := fun _ => some 0) (fun k => ?_) (Ev.now _)⟩;rw [r1_Len.l0,if_neg (by omega)]
  rfl
 | n + 1,hn,h => by
  (have hw : wrap64 (((n + 1 : Nat) : Int) - 1) = (n : Int) := by rw [wrapB _ (by omega) (by omega)];omega);have hb := zWE l hp n (by omega);(have hpw : (2 : Nat) ^ (n + 1) = 2 * 2 ^ n := by rw [Nat.pow_succ,Nat.mul_comm]);have hpos := Nat.two_pow_pos n
  have hdl : valD l / 2 ^ n < 2 := by
   rw [Nat.div_lt_iff_lt_mul hpos,← hpw];exact h
  by_cases h0 : valD l / 2 ^ n % 2 = 0
  ·have hlt : valD l < 2 ^ n := by
    have : valD l / 2 ^ n = 0 := zVg _ h0 hdl;exact (Nat.div_eq_zero_iff_lt hpos).1 this
   obtain ⟨L,h1,h2,h3⟩ := zJh l hp n (by omega) hlt;refine ⟨L,by omega,h2,Ev.step (fun k => ?_) h3⟩;rw [r1_Len.l0,if_pos (by omega),hw,hb,Option.bind_some,if_pos (by rw [h0];rfl)]
  ·have hge : 2 ^ n ≤ valD l := by
    apply Nat.le_of_not_lt;intro hlt;rw [Nat.div_eq_of_lt hlt] at h0;exact h0 rfl
   refine ⟨n + 1,Nat.le_refl _,⟨fun h0' => by omega,fun _ => ⟨by omega,by rw [Nat.add_sub_cancel];exact hge,h⟩⟩,Ev.step (f := fun _ => some ((n + 1 : Nat) : Int)) (fun k => ?_) (Ev.now _)⟩;rw [r1_Len.l0,if_pos (by omega),hw,hb,Option.bind_some,if_neg (fun c => h0 (Int.natCast_eq_zero.1 c))]
theorem zWD (l : List Int) (hp : Digs l) (hl : l.length ≤ 1000000) : ∃ L : Nat,L ≤ 16 * l.length ∧ LenIs (valD l) L ∧ Ev (fun k => r1_Len.f k l) (L : Int) := by
 have hlt := zYy hp;rw [zXw] at hlt;obtain ⟨L,h1,h2,h3⟩ := zJh l hp (16 * l.length) (by omega) hlt;refine ⟨L,h1,h2,Ev.congr (fun k => ?_) h3⟩;unfold r1_Len.f;rw [wrapB _ (by omega) (by omega)]
 rfl
theorem zKz : ∀ (L x : Nat),x < 65536 ^ L → (toD x).length ≤ L
 | 0,x,h => by
  have : x = 0 := by rw [Nat.pow_zero] at h;omega
  rw [this,zXp];exact Nat.le_refl _
 | L + 1,x,h => by
  by_cases h0 : x = 0
  ·rw [h0,zXp];exact Nat.zero_le _
  ·rw [zYi h0,List.length_cons]
   have : x / 65536 < 65536 ^ L := by
    rw [Nat.pow_succ] at h;exact Nat.div_lt_of_lt_mul (by rw [Nat.mul_comm];exact h)
   have := zKz L _ this;omega
theorem zYE {x m : Nat} (h : x < 2 ^ m) : (toD x).length ≤ m / 16 + 1 := by
 refine zKz _ _ (Nat.lt_of_lt_of_le h ?_);rw [zXw];exact Nat.pow_le_pow_right (by decide) (by omega)
theorem zVA (x : Nat) (h : x < 18446744073709551616) : r1_Small.f (toD x) = some (x : Int) := by
 have dig : ∀ i : Nat,(toD x).getD i 0 = ((x / 65536 ^ i % 65536 : Nat) : Int) := by
  have g : ∀ (i x : Nat),(toD x).getD i 0 = ((x / 65536 ^ i % 65536 : Nat) : Int) := by
   intro i
   induction i with
   | zero =>
    intro x;by_cases h0 : x = 0
    ·subst h0;rw [zXp];rfl
    ·rw [zYi h0,Nat.pow_zero,Nat.div_one];rfl
   | succ i ih =>
    intro x;by_cases h0 : x = 0
    ·subst h0;rw [zXp,Nat.zero_div];rfl
    ·rw [zYi h0,Nat.pow_succ,Nat.mul_comm,← Nat.div_div_eq_div_mul]
     exact ih _
  exact fun i => g i x
 unfold r1_Small.f;have a0 := zYj (toD x) 0;have a1 := zYj (toD x) 1;have a2 := zYj (toD x) 2;have a3 := zYj (toD x) 3;rw [dig] at a0 a1 a2 a3;rw [show ((0 : Int)) = ((0 : Nat) : Int) from rfl,show ((1 : Int)) = ((1 : Nat) : Int) from rfl,show ((2 : Int)) = ((2 : Nat) : Int) from rfl,show ((3 : Int)) = ((3 : Nat) : Int) from rfl,a0,Option.bind_some,a1,Option.bind_some,a2,Option.bind_some,a3,Option.bind_some];rw [show (65536 : Nat) ^ 0 = 1 from rfl,show (65536 : Nat) ^ 1 = 65536 from rfl,show (65536 : Nat) ^ 2 = 4294967296 from rfl,show (65536 : Nat) ^ 3 = 281474976710656 from rfl,Nat.div_one];obtain ⟨p,hp⟩ : ∃ p,p = x % 65536 := ⟨_,rfl⟩;obtain ⟨q,hq⟩ : ∃ q,q = x / 65536 % 65536 := ⟨_,rfl⟩;obtain ⟨r,hr⟩ : ∃ r,r = x / 4294967296 % 65536 := ⟨_,rfl⟩;obtain ⟨s,hs⟩ : ∃ s,s = x / 281474976710656 % 65536 := ⟨_,rfl⟩;rw [← hp,← hq,← hr,← hs];(have w1 : IntKind.u64.wrap ((q : Int) * 65536) = ((q * 65536 : Nat) : Int) := by rw [show ((q : Int) * 65536) = ((q * 65536 : Nat) : Int) by omega,u64_in _ (by omega)]);(have w2 : IntKind.u64.wrap ((r : Int) * 4294967296) = ((r * 4294967296 : Nat) : Int) := by rw [show ((r : Int) * 4294967296) = ((r * 4294967296 : Nat) : Int) by omega,u64_in _ (by omega)]);have w3 : IntKind.u64.wrap ((s : Int) * 281474976710656) = ((s * 281474976710656 : Nat) : Int) := by rw [show ((s : Int) * 281474976710656) = ((s * 281474976710656 : Nat) : Int) by omega,u64_in _ (by omega)]
 have orr : ∀ (n a b : Nat),a < 2 ^ n → a ||| b * 2 ^ n = a + b * 2 ^ n := by
  intro n a b h;have := Nat.two_pow_add_eq_or_of_lt (i := n) h b;rw [Nat.or_comm,Nat.mul_comm b,← this,Nat.add_comm]
 have o1 := orr 16 p q (by show p < 65536;omega);have o2 := orr 32 (p + q * 65536) r (by show p + q * 65536 < 4294967296;omega);have o3 := orr 48 (p + q * 65536 + r * 4294967296) s (by show p + q * 65536 + r * 4294967296 < 281474976710656;omega);rw [show (2 : Nat) ^ 16 = 65536 from rfl] at o1;rw [show (2 : Nat) ^ 32 = 4294967296 from rfl] at o2;rw [show (2 : Nat) ^ 48 = 281474976710656 from rfl] at o3;rw [w1,w2,w3,zYl _ _ (by omega) (by omega),o1,zYl _ _ (by omega) (by omega),o2,zYl _ _ (by omega) (by omega),o3]
 congr 2
 omega
theorem zJz (l : List Int) (hp : Digs l) (lost : Bool) (out : List Int) (i : Nat) (hi : i ≤ 50000000) (r : List Int × Bool)
  (hend : Ev (fun k => if out.length < 17592186044416 then r1_Down.l1 k l lost (out ++ [((valD l / 2 ^ i % 65536 : Nat) : Int)]) (wrap64 ((i : Int) + 16)) else none) r) : ∀ (d t : Nat),t + d = 16 →
  Ev (fun k => r1_Down.l2 k l lost out (i : Int) ((valD l / 2 ^ i % 2 ^ t : Nat) : Int) (t : Int)) r
 | 0,t,ht => by
  (obtain rfl : t = 16 := by omega);refine Ev.step (fun k => ?_) hend;rw [r1_Down.l2,if_neg (by decide)]
 | d + 1,t,ht => by
  have ih := zJz l hp lost out i hi r hend d (t + 1) (by omega);refine Ev.step (fun k => ?_) ih;(have b1 : i + t ≤ 1000000000 := by omega);have hbit := zWE l hp (i + t) (by omega);obtain ⟨x,hx⟩ : ∃ x,x = valD l / 2 ^ i := ⟨_,rfl⟩;(have hsh : valD l / 2 ^ (i + t) = x / 2 ^ t := by rw [Nat.pow_add,← Nat.div_div_eq_div_mul,hx]);rw [hsh] at hbit;rw [← hx];have hb2 : x / 2 ^ t % 2 < 2 := Nat.mod_lt _ (by decide);have hT : 2 ^ t < 65536 := Nat.lt_of_lt_of_le (Nat.pow_lt_pow_right (by decide) (show t < 16 by omega)) (Nat.le_refl _);have hm : x % 2 ^ t < 2 ^ t := Nat.mod_lt _ (Nat.two_pow_pos t)
  have hmul : x / 2 ^ t % 2 * 2 ^ t < 131072 := by
   have : x / 2 ^ t % 2 * 2 ^ t ≤ 1 * 2 ^ t := Nat.mul_le_mul_right _ (by omega);omega
  have hshl : shl .u64 ((x / 2 ^ t % 2 : Nat) : Int) (t : Int) = ((x / 2 ^ t % 2 * 2 ^ t : Nat) : Int) := by
   rw [zZA _ _ (by omega),Nat.mod_eq_of_lt (Nat.lt_of_lt_of_le hmul (by decide))]
  have hor : x % 2 ^ t ||| x / 2 ^ t % 2 * 2 ^ t = x % 2 ^ (t + 1) := by
   have := Nat.two_pow_add_eq_or_of_lt (i := t) hm (x / 2 ^ t % 2);rw [Nat.or_comm,Nat.mul_comm,← this,Nat.pow_succ,Nat.mod_mul,Nat.add_comm]
  have h1 : x % 2 ^ t < 18446744073709551616 := Nat.lt_of_lt_of_le hm (Nat.le_trans (Nat.le_of_lt hT) (by decide));have h2 : x / 2 ^ t % 2 * 2 ^ t < 18446744073709551616 := Nat.lt_of_lt_of_le hmul (by decide);rw [r1_Down.l2,if_pos (by omega),wrap_add i t b1,hbit,Option.bind_some,u64_in t (by omega),if_pos (by omega),hshl,zYl _ _ h1 h2,hor,zYu t (by omega)]
theorem zGn (l : List Int) (hp : Digs l) (hl : l.length ≤ 1000000) (n : Nat) (hn : n ≤ 10000000) (lost : Bool) : ∀ (d q : Nat) (out : List Int),16 * l.length ≤ n + 16 * (q + d) → q ≤ 1000000 → q + d ≤ 1000001 → out.length = q → Digs out → valD out = valD l / 2 ^ n % 65536 ^ q →
  (q = 0 ∨ n + 16 * (q - 1) < 16 * l.length) →
  Ev (fun k => r1_Down.l1 k l lost out ((n + 16 * q : Nat) : Int)) (toD (valD l / 2 ^ n),lost) := by
 intro d
 induction d with
 | zero =>
  intro q out h1 h2 h2' h3 h4 h5 h6
  have hlt : valD l / 2 ^ n < 65536 ^ q := by
   rw [Nat.div_lt_iff_lt_mul (Nat.two_pow_pos n),zXw,← Nat.pow_add];have := zYy hp;rw [zXw] at this;exact Nat.lt_of_lt_of_le this (Nat.pow_le_pow_right (by decide) (by omega))
  rw [Nat.mod_eq_of_lt hlt] at h5;have ht := zYC out h4 (by omega);rw [h5] at ht;refine Ev.step (fun k => ?_) (Ev.bind (f := fun _ t => some (t,lost)) ht (Ev.now _));rw [r1_Down.l1,wrapB (16 * _) (by omega) (by omega),if_neg (by omega)]
 | succ d ih =>
  intro q out h1 h2 h2' h3 h4 h5 h6;by_cases hc : n + 16 * q < 16 * l.length
  ·have hnext := ih (q + 1) (out ++ [((valD l / 2 ^ (n + 16 * q) % 65536 : Nat) : Int)]) (by omega) (by omega) (by omega) (by rw [List.length_append,List.length_singleton];omega) (zXV h4 (zYf ⟨Int.natCast_nonneg _,Int.ofNat_lt.2 (Nat.mod_lt _ (by decide))⟩)) (by
     rw [zXo,h3,h5,Nat.pow_add,← Nat.div_div_eq_div_mul,zXw q];simp only [valD,Nat.mul_zero,Nat.add_zero,Int.toNat_natCast]
     rw [← zXw,Nat.pow_succ,Nat.mod_mul]) (.inr (by omega))
   have hend : Ev (fun k => if out.length < 17592186044416 then r1_Down.l1 k l lost (out ++ [((valD l / 2 ^ (n + 16 * q) % 65536 : Nat) : Int)]) (wrap64 (((n + 16 * q : Nat) : Int) + 16)) else none) (toD (valD l / 2 ^ n),lost) := by
    refine Ev.congr (fun k => ?_) hnext;rw [if_pos (by omega),wrapB _ (by omega) (by omega)]
    congr 1
   have hb := zJz l hp lost out (n + 16 * q) (by omega) _ hend 16 0 (by omega);rw [Nat.pow_zero,Nat.mod_one] at hb;refine Ev.step (fun k => ?_) hb;rw [r1_Down.l1,wrapB (16 * _) (by omega) (by omega),if_pos (by omega)]
   rfl
  ·
   have hlt : valD l / 2 ^ n < 65536 ^ q := by
    rw [Nat.div_lt_iff_lt_mul (Nat.two_pow_pos n),zXw,← Nat.pow_add];have := zYy hp;rw [zXw] at this;exact Nat.lt_of_lt_of_le this (Nat.pow_le_pow_right (by decide) (by omega))
   rw [Nat.mod_eq_of_lt hlt] at h5;have ht := zYC out h4 (by omega);rw [h5] at ht;refine Ev.step (fun k => ?_) (Ev.bind (f := fun _ t => some (t,lost)) ht (Ev.now _));rw [r1_Down.l1,wrapB (16 * _) (by omega) (by omega),if_neg (by omega)]
theorem zJv (l : List Int) (hp : Digs l) (hl : l.length ≤ 1000000) (n : Nat) (hn : n ≤ 10000000) : ∀ (d i : Nat),i + d = min n (16 * l.length) →
  Ev (fun k => r1_Down.l0 k l (n : Int) (decide (valD l % 2 ^ i ≠ 0)) (i : Int)) (toD (valD l / 2 ^ n),decide (valD l % 2 ^ n ≠ 0))
 | 0,i,hi => by
  have hlost : decide (valD l % 2 ^ i ≠ 0) = decide (valD l % 2 ^ n ≠ 0) := by
   by_cases h : n ≤ 16 * l.length
   ·rw [show i = n by omega]
   ·have hv := zYy hp;rw [zXw] at hv;rw [Nat.mod_eq_of_lt (Nat.lt_of_lt_of_le hv (Nat.pow_le_pow_right (by decide) (by omega))),Nat.mod_eq_of_lt (Nat.lt_of_lt_of_le hv (Nat.pow_le_pow_right (by decide) (by omega)))]
  rw [hlost];have hd := zGn l hp hl n hn (decide (valD l % 2 ^ n ≠ 0)) (1000001 - 1) 0 [] (by omega) (by omega) (by omega) rfl (fun y hy => by cases hy) (by rw [Nat.pow_zero,Nat.mod_one];rfl) (.inl rfl);rw [Nat.mul_zero,Nat.add_zero] at hd;have hj : Ev (fun k => r1_Down.j1 k l (n : Int) (decide (valD l % 2 ^ n ≠ 0))) (toD (valD l / 2 ^ n),decide (valD l % 2 ^ n ≠ 0)) := Ev.step (fun k => by rw [r1_Down.j1]) hd;refine Ev.step (fun k => ?_) hj;rw [r1_Down.l0];by_cases h : (i : Int) < (n : Int)
  ·rw [if_pos h,wrapB (16 * _) (by omega) (by omega),if_neg (by omega)]
  ·rw [if_neg h]
 | d + 1,i,hi => by
  have ih := zJv l hp hl n hn d (i + 1) (by omega);have hbit := zWE l hp i (by omega);(have hs : valD l % 2 ^ (i + 1) = valD l % 2 ^ i + 2 ^ i * (valD l / 2 ^ i % 2) := by rw [Nat.pow_succ,Nat.mod_mul]);refine Ev.step (fun k => ?_) ih;rw [r1_Down.l0,if_pos (by omega),wrapB (16 * _) (by omega) (by omega),if_pos (by omega)];by_cases h : valD l % 2 ^ i ≠ 0
  ·rw [decide_eq_true h,if_pos rfl,zYu i (by omega),decide_eq_true (by rw [hs];omega)]
  ·rw [decide_eq_false h,if_neg (by decide),hbit,Option.bind_some,zYu i (by omega)]
   congr 1
   rw [hs];have h0 : valD l % 2 ^ i = 0 := Decidable.not_not.1 h;rw [h0,Nat.zero_add];have hm : valD l / 2 ^ i % 2 < 2 := Nat.mod_lt _ (by decide);obtain ⟨b,hb⟩ : ∃ b,b = valD l / 2 ^ i % 2 := ⟨_,rfl⟩;rw [← hb] at hm ⊢;have hpos := Nat.two_pow_pos i;rcases (show b = 0 ∨ b = 1 by omega) with e | e
   ·subst e;rw [Nat.mul_zero];rfl
   ·subst e;rw [Nat.mul_one,decide_eq_true (by omega)];rfl
theorem zGT (l : List Int) (hp : Digs l) (hl : l.length ≤ 1000000) (n : Nat) (hn : n ≤ 10000000) : Ev (fun k => r1_Down.f k l (n : Int)) (toD (valD l / 2 ^ n),decide (valD l % 2 ^ n ≠ 0)) := by
 have h := zJv l hp hl n hn (min n (16 * l.length)) 0 (by omega);rw [Nat.pow_zero,Nat.mod_one] at h;exact h
end Go.Proofs.YtongfmeediokmaaGreatDoor.Pure
end
section
namespace Go.Proofs.YtongfmeediokmaaGreatDoor.Pure
open Go.RowKit Go.Proofs.YtongfmeediokmaaGreatDoor.Pr Go.Proofs.YtongfmeediokmaaGreatDoorW.PrintWords Go.Proofs.YtongfmeediokmaaGreatDoorW.PrintLast Go.Proofs.YtongfmeediokmaaGreatDoorW.PrintMore Go.Proofs.YtongfmeediokmaaGreatDoor.Flo
theorem zWJ {x L m : Nat} (h : LenIs x L) (hm : x < 2 ^ m) : L ≤ m := by
 by_cases h0 : x = 0
 ·rw [h.1 h0];exact Nat.zero_le _
 ·obtain ⟨_,h2,_⟩ := h.2 h0;apply Nat.le_of_not_lt;intro hlt;have : 2 ^ m ≤ 2 ^ (L - 1) := Nat.pow_le_pow_right (by decide) (by omega);omega
theorem zHZ (q : List Int) (hq : Digs q) (i t : Nat) (hi : i / 16 < q.length) (hv : valD q = 2 ^ (i + 1) * t) : ∃ a : Nat,q.getD (i / 16) 0 = (a : Int) ∧ a + 2 ^ (i % 16) < 65536 ∧ Go.bits .or .u64 (a : Int) (shl .u64 1 ((i % 16 : Nat) : Int)) = ((a + 2 ^ (i % 16) : Nat) : Int) ∧
  valD (q.set (i / 16) ((a + 2 ^ (i % 16) : Nat) : Int)) = 2 ^ i * (2 * t + 1) := by
 obtain ⟨a,ga,ha2,hd,_⟩ := zYv q (i / 16) hq;have hrl : i % 16 < 16 := Nat.mod_lt _ (by decide)
 have hsplit : valD q = valD (q.take (i / 16)) + 65536 ^ (i / 16) * valD (q.drop (i / 16)) := by
  have := zXo (q.take (i / 16)) (q.drop (i / 16));rw [List.take_append_drop,List.length_take,Nat.min_eq_left (Nat.le_of_lt hi)] at this;exact this
 have hlow := zYn hq (i / 16);have hi2 : i + 1 = 16 * (i / 16) + (i % 16 + 1) := by omega
 have hmul : valD q / 65536 ^ (i / 16) = 2 ^ (i % 16 + 1) * t := by
  rw [hv,hi2,Nat.pow_add,← zXw,Nat.mul_assoc,Nat.mul_div_cancel_left _ (zKH _)]
 rw [hsplit,Nat.add_mul_div_left _ _ (zKH _),Nat.div_eq_of_lt hlow,Nat.zero_add,hd] at hmul;obtain ⟨j,hj⟩ : ∃ j,16 = i % 16 + 1 + j := ⟨16 - (i % 16 + 1),by omega⟩;have e16 : (65536 : Nat) = 2 ^ (i % 16 + 1) * 2 ^ j := by rw [← Nat.pow_add,← hj]
 have hamod : a % 2 ^ (i % 16 + 1) = 0 := by
  (have h1 : (a + 65536 * valD (q.drop (i / 16 + 1))) % 2 ^ (i % 16 + 1) = 0 := by rw [hmul,Nat.mul_mod_right]);rw [e16,Nat.mul_assoc,Nat.add_mul_mod_self_left] at h1;exact h1
 obtain ⟨s,hs⟩ : ∃ s,a = 2 ^ (i % 16 + 1) * s := ⟨a / 2 ^ (i % 16 + 1),by
  have := Nat.div_add_mod a (2 ^ (i % 16 + 1));rw [hamod,Nat.add_zero] at this
  exact this.symm⟩
 have hp2 : 2 ^ (i % 16) < 2 ^ (i % 16 + 1) := Nat.pow_lt_pow_right (by decide) (by omega)
 have hbound : a + 2 ^ (i % 16) < 65536 := by
  have h1 : s < 2 ^ j := by
   rw [hs,e16] at ha2;exact Nat.lt_of_mul_lt_mul_left ha2
  have h2 : 2 ^ (i % 16 + 1) * (s + 1) ≤ 2 ^ (i % 16 + 1) * 2 ^ j := Nat.mul_le_mul_left _ h1;rw [Nat.mul_succ,← e16,← hs] at h2;omega
 have hp3 : 2 ^ (i % 16) < 65536 := by omega
 have hsh : shl .u64 1 ((i % 16 : Nat) : Int) = ((2 ^ (i % 16) : Nat) : Int) := by
  have h9 := zZA 1 (i % 16) (by omega);rw [Nat.one_mul,Nat.mod_eq_of_lt (Nat.lt_of_lt_of_le hp3 (by decide))] at h9;exact h9
 refine ⟨a,ga,hbound,?_,?_⟩
 ·rw [hsh,zYl _ _ (by omega) (by omega),hs,or_bit]
 ·have := zWx q (i / 16) (a + 2 ^ (i % 16)) hi a ga;rw [Nat.mul_add,hv] at this
  have e : 65536 ^ (i / 16) * 2 ^ (i % 16) = 2 ^ i := by
   rw [zXw,← Nat.pow_add]
   congr 1
   omega
  rw [e] at this;(have e2 : 2 ^ (i + 1) * t = 2 ^ i * (2 * t) := by rw [Nat.pow_succ,Nat.mul_assoc]);rw [e2] at this;rw [Nat.mul_succ];omega
theorem zWN (l b : List Int) (hp : Digs l) (hb : Digs b) (hb0 : valD b ≠ 0) (hl : l.length ≤ 100000) (hbl : b.length ≤ 100000) : ∀ (i : Nat) (q : List Int) (r t : Nat),i ≤ 16 * l.length → q.length = l.length → Digs q → valD q = 2 ^ i * t → valD l / 2 ^ i = t * valD b + r → r < valD b →
  Ev (fun k => r1_Divide.l0 k l b q (toD r) ((i : Int) - 1)) (toD (valD l / valD b),toD (valD l % valD b))
 | 0,q,r,t,hi,hql,hq,hv,hdiv,hr => by
  rw [Nat.pow_zero,Nat.div_one] at hdiv;rw [Nat.pow_zero,Nat.one_mul] at hv;have hpos : 0 < valD b := Nat.pos_of_ne_zero hb0;(have e1 : valD l / valD b = t := by rw [hdiv,Nat.mul_comm t,Nat.mul_add_div hpos,Nat.div_eq_of_lt hr,Nat.add_zero]);(have e2 : valD l % valD b = r := by rw [hdiv,Nat.mul_comm t,Nat.mul_add_mod,Nat.mod_eq_of_lt hr]);rw [e1,e2];have ht := zYC q hq (by omega);rw [hv] at ht;refine Ev.step (fun k => ?_) (Ev.bind (f := fun _ u => some (u,toD r)) ht (Ev.now _));rw [r1_Divide.l0,if_neg (by omega)]
 | i + 1,q,r,t,hi,hql,hq,hv,hdiv,hr => by
  have hrl : (toD r).length ≤ b.length := zKz _ _ (Nat.lt_trans hr (zYy hb));have hup := zVD (toD r) (zXh r) 1 (by omega);rw [zXs,Nat.pow_one] at hup;have hbit := zWE l hp i (by omega);obtain ⟨c,hc⟩ : ∃ c,c = valD l / 2 ^ i % 2 := ⟨_,rfl⟩;rw [← hc] at hbit;(have hc2 : c < 2 := by rw [hc];exact Nat.mod_lt _ (by decide));have hone : Digs [(c : Int)] := zYf (by omega)
  have h2l : (toD (r * 2)).length ≤ b.length + 1 := by
   refine zKz _ _ ?_
   rw [Nat.pow_succ];exact Nat.mul_lt_mul_of_lt_of_le (Nat.lt_trans hr (zYy hb)) (by decide) (by decide)
  have hsum := zVE (toD (r * 2)) [(c : Int)] (zXh _) hone (by omega) (show 1 ≤ 900000 by decide);(have hvone : valD [(c : Int)] = c := by simp [valD]);rw [zXs,hvone] at hsum
  have h3l : (toD (r * 2 + c)).length ≤ b.length + 1 := by
   refine zKz _ _ ?_
   rw [Nat.pow_succ];have h1 := Nat.lt_trans hr (zYy hb);have h2 : (r + 1) * 2 ≤ 65536 ^ b.length * 65536 := Nat.mul_le_mul h1 (by decide);omega
  obtain ⟨o,ho,ho1⟩ := zFc (toD (r * 2 + c)) b (zXh _) hb (by omega) (by omega);rw [zXs] at ho1
  have hdiv2 : valD l / 2 ^ i = 2 * (t * valD b + r) + c := by
   (have h1 : valD l / 2 ^ i / 2 = valD l / 2 ^ (i + 1) := by rw [Nat.div_div_eq_div_mul,Nat.pow_succ]);rw [hdiv] at h1;omega
  (have hk : ((i + 1 : Nat) : Int) - 1 = (i : Int) := by omega);have hwi : wrap64 ((i : Int) - 1) = (i : Int) - 1 := wrapB _ (by omega) (by omega);(have hq16 : wrap64 (Int.tdiv (i : Int) 16) = ((i / 16 : Nat) : Int) := by rw [Int.tdiv_eq_ediv_of_nonneg (by omega),wrapB _ (by omega) (by omega)];omega);(have hr16 : IntKind.u64.wrap (Int.tmod (i : Int) 16) = ((i % 16 : Nat) : Int) := by rw [Int.tmod_eq_emod_of_nonneg (by omega),show ((i : Int) % 16) = ((i % 16 : Nat) : Int) by omega,u64_in _ (by omega)]);(have hin : i / 16 < q.length := by rw [hql];exact Nat.div_lt_of_lt_mul (by omega));by_cases hge : o ≥ 0
  ·have hle := ho1.1 hge;have hmin := zVG (toD (r * 2 + c)) b (zXh _) hb (by omega) (by rw [zXs];exact hle);rw [zXs] at hmin;obtain ⟨a,ga,ha2,hor,hval⟩ := zHZ q hq i t hin hv
   have ih := zWN l b hp hb hb0 hl hbl i (q.set (i / 16) ((a + 2 ^ (i % 16) : Nat) : Int)) (r * 2 + c - valD b) (2 * t + 1) (by omega) (by rw [List.length_set];exact hql) (zWO hq _ ⟨Int.natCast_nonneg _,Int.ofNat_lt.2 ha2⟩) hval
    (by rw [hdiv2,Nat.add_mul,Nat.one_mul,Nat.mul_assoc];omega) (by omega)
   have q2 : (0 : Int) ≤ ((i / 16 : Nat) : Int) := Int.natCast_nonneg _
   have q3 : ((i / 16 : Nat) : Int) < ((q.length : Nat) : Int) := Int.ofNat_lt.2 hin
   have q4 : (0 : Int) ≤ ((i % 16 : Nat) : Int) := Int.natCast_nonneg _
   have q5 : (0 : Int) ≤ ((i : Nat) : Int) := Int.natCast_nonneg _
   refine Ev.step (fun k => ?_) (Ev.bind hup (f := fun k t567 => (r1_Sum.f k t567 [(c : Int)]).bind fun t574 => (r1_Cmp.f k t574 b).bind fun t577 => if t577 ≥ 0 then ((r1_Minus.f k t574 b).bind fun t578 => r1_Divide.l0 k l b (q.set (i / 16) ((a + 2 ^ (i % 16) : Nat) : Int)) t578 ((i : Int) - 1)) else r1_Divide.l0 k l b q t574 ((i : Int) - 1))
    (Ev.bind hsum (Ev.bind ho (Ev.congr (fun k => if_pos hge) (Ev.bind hmin (f := fun k t578 => r1_Divide.l0 k l b (q.set (i / 16) ((a + 2 ^ (i % 16) : Nat) : Int)) t578 ((i : Int) - 1)) ih)))))
   rw [hk,r1_Divide.l0,if_pos q5,hbit,hwi,hq16,hr16];simp only [Option.bind_some,if_pos q2,if_pos q3,if_pos q4,Int.toNat_natCast,zYa,ga,hor]
   rfl
  ·have hlt : r * 2 + c < valD b := by
    apply Nat.lt_of_not_le;intro hle;exact hge (ho1.2 hle)
   have ih := zWN l b hp hb hb0 hl hbl i q (r * 2 + c) (2 * t) (by omega) hql hq (by rw [hv,Nat.pow_succ,Nat.mul_assoc])
    (by rw [hdiv2,Nat.mul_assoc];omega) hlt
   have q5 : (0 : Int) ≤ ((i : Nat) : Int) := Int.natCast_nonneg _
   refine Ev.step (fun k => ?_) (Ev.bind hup (f := fun k t567 => (r1_Sum.f k t567 [(c : Int)]).bind fun t574 => (r1_Cmp.f k t574 b).bind fun t577 => if t577 ≥ 0 then ((r1_Minus.f k t574 b).bind fun t578 => if 0 ≤ ((i / 16 : Nat) : Int) then (if ((i / 16 : Nat) : Int) < ((q.length : Nat) : Int) then (if 0 ≤ ((i % 16 : Nat) : Int) then r1_Divide.l0 k l b (q.set ((i / 16 : Nat) : Int).toNat (Go.bits .or .u64 (rd q ((i / 16 : Nat) : Int)) (shl .u64 1 ((i % 16 : Nat) : Int)))) t578 ((i : Int) - 1) else none) else none) else none) else r1_Divide.l0 k l b q t574 ((i : Int) - 1))
    (Ev.bind hsum (Ev.bind ho (Ev.congr (fun k => if_neg hge) ih))))
   rw [hk,r1_Divide.l0,if_pos q5,hbit,hwi,hq16,hr16];simp only [Option.bind_some]
   rfl
theorem zFb (l b : List Int) (hp : Digs l) (hb : Digs b) (hb0 : valD b ≠ 0) (hl : l.length ≤ 100000) (hbl : b.length ≤ 100000) : Ev (fun k => r1_Divide.f k l b) (toD (valD l / valD b),toD (valD l % valD b)) := by
 obtain ⟨L,h1,h2,h3⟩ := zWD l hp (by omega);have hlt := zBy h2;have hz : valD l / 2 ^ L = 0 := Nat.div_eq_of_lt hlt;have h := zWN l b hp hb hb0 hl hbl L (List.replicate l.length 0) 0 0 h1 (List.length_replicate ..) (zZw _) (by rw [zZb,Nat.mul_zero]) (by rw [hz,Nat.zero_mul]) (Nat.pos_of_ne_zero hb0);rw [zXp] at h
 have q1 : (0 : Int) ≤ ((l.length : Nat) : Int) := Int.natCast_nonneg _
 refine Ev.congr (fun k => ?_) (Ev.bind h3 (f := fun k t => r1_Divide.l0 k l b (List.replicate l.length 0) [] (wrap64 (t - 1))) (Ev.congr (fun k => by rw [wrapB _ (by omega) (by omega)]) h));unfold r1_Divide.f;rw [if_pos q1,Int.toNat_natCast,if_pos (by omega)]
theorem zGJ (M : Nat) (hMM : M ≤ 100000) : ∀ (n a p : Nat),n ≤ 1000000 → 1 ≤ a → 1 ≤ p → a * p ^ (2 * n) < 2 ^ M → Ev (fun k => r5_Ten.l0 k (n : Int) (toD a) (toD p)) (toD (a * p ^ n)) := by
 intro n
 induction n using Nat.strongRecOn with
 | _ n ih =>
  intro a p hn ha hp hM;by_cases h0 : n = 0
  ·subst h0;rw [Nat.pow_zero,Nat.mul_one];refine Ev.step (f := fun _ => some (toD a)) (fun k => ?_) (Ev.now _);rw [r5_Ten.l0,if_neg (by omega)]
  ·have hpp : p ≤ p ^ (2 * n) := by
    have := Nat.pow_le_pow_right hp (show 1 ≤ 2 * n by omega)
    rwa [Nat.pow_one] at this
   have hp1 : 1 ≤ p ^ (2 * n) := Nat.pow_pos hp;have haM : a < 2 ^ M := Nat.lt_of_le_of_lt (Nat.le_mul_of_pos_right _ hp1) hM;have hpM : p < 2 ^ M := Nat.lt_of_le_of_lt (Nat.le_trans hpp (Nat.le_mul_of_pos_left _ ha)) hM;have la := zYE haM;have lp := zYE hpM;have hsq := zZk (toD p) (toD p) (zXh _) (zXh _) (by omega) (by omega);rw [zXs] at hsq;have hap := zZk (toD a) (toD p) (zXh _) (zXh _) (by omega) (by omega);rw [zXs,zXs] at hap;(have hw : wrap64 (Int.tdiv (n : Int) 2) = ((n / 2 : Nat) : Int) := by rw [Int.tdiv_eq_ediv_of_nonneg (by omega),wrapB _ (by omega) (by omega)];omega);(have hm : Int.tmod (n : Int) 2 = ((n % 2 : Nat) : Int) := by rw [Int.tmod_eq_emod_of_nonneg (by omega)];omega);(have hp2 : ∀ z,(p * p) ^ z = p ^ (2 * z) := fun z => by rw [Nat.pow_mul,Nat.pow_two]);by_cases ho : n % 2 = 1
   ·have g := ih (n / 2) (by omega) (a * p) (p * p) (by omega) (Nat.mul_pos ha hp) (Nat.mul_pos hp hp) (by
      rw [hp2,Nat.mul_assoc,← Nat.pow_succ']
      exact Nat.lt_of_le_of_lt (Nat.mul_le_mul_left _ (Nat.pow_le_pow_right hp (by omega))) hM)
    have e : a * p * (p * p) ^ (n / 2) = a * p ^ n := by
     rw [hp2,Nat.mul_assoc,← Nat.pow_succ']
     congr 2
     omega
    rw [e] at g;refine Ev.step (fun k => ?_) (Ev.bind hap (f := fun k t529 => (r1_Product.f k (toD p) (toD p)).bind fun t532 => r5_Ten.l0 k ((n / 2 : Nat) : Int) t529 t532) (Ev.bind hsq g));rw [r5_Ten.l0,if_pos (by omega),hm,if_pos (by rw [ho];rfl),hw]
   ·have ho' : ¬ ((n % 2 : Nat) : Int) = 1 := by omega
    have g := ih (n / 2) (by omega) a (p * p) (by omega) ha (Nat.mul_pos hp hp) (by
      rw [hp2]
      exact Nat.lt_of_le_of_lt (Nat.mul_le_mul_left _ (Nat.pow_le_pow_right hp (by omega))) hM)
    have e : a * (p * p) ^ (n / 2) = a * p ^ n := by
     rw [hp2]
     congr 2
     omega
    rw [e] at g;refine Ev.step (fun k => ?_) (Ev.bind hsq (f := fun k t535 => r5_Ten.l0 k ((n / 2 : Nat) : Int) (toD a) t535) g);rw [r5_Ten.l0,if_pos (by omega),hm,if_neg ho',hw]
theorem zHA (n : Nat) (hn : n ≤ 2000) : Ev (fun k => r5_Ten.f k (n : Int)) (toD (10 ^ n)) := by
 have h := zGJ (4 * (2 * n) + 1) (by omega) n 1 10 (by omega) (by decide) (by decide) (by
  rw [Nat.one_mul]
  exact zYW (2 * n))
 rw [Nat.one_mul] at h;(have h1 : toD 1 = [1] := by rw [zYi (by decide)];show (1 : Int) :: toD 0 = [1];rw [zXp]);(have h10 : toD 10 = [10] := by rw [zYi (by decide)];show (10 : Int) :: toD 0 = [10];rw [zXp]);rw [h1,h10] at h;exact h
theorem zKU (s : ByteArray) (hs : zQH s) (hsz : s.size ≤ 1000) : ∀ d i : Nat,i + d = s.size → Ev (fun k => r5_Whole.l0 k s (toD (dval s i)) (i : Int)) (toD (dval s s.size))
 | 0,i,hi => by
  (obtain rfl : i = s.size := by omega);refine Ev.step (f := fun _ => some (toD (dval s s.size))) (fun k => ?_) (Ev.now _);rw [r5_Whole.l0,if_neg (by omega)]
 | d + 1,i,hi => by
  have ih := zKU s hs hsz d (i + 1) (by omega);have hb := hs i (by omega);have hlt : dval s i < 2 ^ (4 * i + 1) := Nat.lt_trans (zKF s hs i (by omega)) (zYW i);(have hlt2 : dval s i * 10 < 2 ^ (4 * i + 1 + 4) := by rw [Nat.pow_add];exact Nat.mul_lt_mul_of_lt_of_le hlt (by decide) (by decide));have l1 := zYE hlt;have l2 := zYE hlt2;have hten : Digs [(10 : Int)] := zYf (by omega);have hdig : Digs [((bt s (i : Int) - 48).toNat : Int)] := zYf (by omega);have hpr := zZk (toD (dval s i)) [10] (zXh _) hten (by omega) (show 1 ≤ 400000 by decide);rw [zXs,show valD [(10 : Int)] = 10 from rfl] at hpr;have hsu := zVE (toD (dval s i * 10)) [((bt s (i : Int) - 48).toNat : Int)] (zXh _) hdig (by omega) (show 1 ≤ 900000 by decide);rw [zXs,show valD [((bt s (i : Int) - 48).toNat : Int)] = (bt s (i : Int) - 48).toNat by rw [valD,valD,Int.toNat_natCast,Nat.mul_zero,Nat.add_zero]] at hsu;(have hbt : (bt s (i : Int) - 48) % 256 = (((bt s (i : Int) - 48).toNat : Nat) : Int) := by omega);refine Ev.step (fun k => ?_) (Ev.bind hpr (f := fun k t463 => (r1_Sum.f k t463 [((bt s (i : Int) - 48).toNat : Int)]).bind fun t469 => r5_Whole.l0 k s t469 ((i + 1 : Nat) : Int)) (Ev.bind hsu ih));rw [r5_Whole.l0,if_pos (by omega),hbt,zYu i (by omega)]
  have q : (0 : Int) ≤ (i : Int) := Int.natCast_nonneg _
  simp only [if_pos q]
theorem zGG (s : ByteArray) (hs : zQH s) (hsz : s.size ≤ 1000) : Ev (fun k => r5_Whole.f k s) (toD (dval s s.size)) := by
 have h := zKU s hs hsz s.size 0 (by omega);have e0 : dval s 0 = 0 := rfl;rw [e0,zXp] at h;exact h
theorem zZz : r1_Sign.f false = some 0 := rfl
theorem zKB : r1_Infinite.f false = some ((INF : Nat) : Int) := by kernel_rfl
theorem zGR (e : Int) (j R : Nat) (hj : (j : Int) = e + 1074) (hb : j ≤ 100000) (hR : R ≤ 9007199254740992) (h2 : j = 0 ∨ 4503599627370496 ≤ R) :
  Ev (fun k => r1_Round.j4 k false e (R : Int)) ((min (j * 4503599627370496 + R) INF : Nat) : Int) := by
 have hj5 : ∀ (e' : Int) (j' R' : Nat),(j' : Int) = e' + 1074 → j' ≤ 100001 → R' < 9007199254740992 → (j' = 0 ∨ 4503599627370496 ≤ R') → Ev (fun k => r1_Round.j5 k false e' (R' : Int)) ((min (j' * 4503599627370496 + R') INF : Nat) : Int) := by
  intro e' j' R' hj' hb' hR' h2';refine Ev.step (f := fun _ => some ((min (j' * 4503599627370496 + R') INF : Nat) : Int)) (fun k => ?_) (Ev.now _);rw [r1_Round.j5];by_cases ho : e' > 971
  ·rw [if_pos ho,zKB,Option.bind_some];unfold INF;rw [Nat.min_eq_right (by omega)]
  ·rw [if_neg ho];by_cases hs : R' < 4503599627370496
   ·(obtain rfl : j' = 0 := by omega);rw [if_pos (by omega),zZz,Option.bind_some,zYk _ (by omega),Nat.zero_mul,Nat.zero_add];unfold INF;rw [Nat.min_eq_left (by omega)]
   ·rw [if_neg (by omega),zZz,Option.bind_some,wrapB _ (by omega) (by omega)];(have h1 : IntKind.u64.wrap (e' + 1075) = ((j' + 1 : Nat) : Int) := by rw [show (e' + 1075) = ((j' + 1 : Nat) : Int) by omega,u64_in _ (by omega)]);(have h3 : IntKind.u64.wrap (((j' + 1 : Nat) : Int) * 4503599627370496) = (((j' + 1) * 4503599627370496 : Nat) : Int) := by rw [show (((j' + 1 : Nat) : Int) * 4503599627370496) = (((j' + 1) * 4503599627370496 : Nat) : Int) by omega,u64_in _ (by omega)]);(have h4 : IntKind.u64.wrap ((R' : Int) - 4503599627370496) = ((R' - 4503599627370496 : Nat) : Int) := by rw [show ((R' : Int) - 4503599627370496) = ((R' - 4503599627370496 : Nat) : Int) by omega,u64_in _ (by omega)]);rw [h1,h3,h4,zYk _ (by omega),zJW _ _ (by omega) (by omega)];unfold INF;rw [Nat.min_eq_left (by omega)];exact congrArg (fun z : Nat => some (z : Int)) (by omega)
 by_cases hbig : R = 9007199254740992
 ·subst hbig;have g := hj5 (e + 1) (j + 1) 4503599627370496 (by omega) (by omega) (by decide) (.inr (by decide));rw [show (j + 1) * 4503599627370496 + 4503599627370496 = j * 4503599627370496 + 9007199254740992 by omega] at g;refine Ev.step (fun k => ?_) g;rw [r1_Round.j4,if_pos (by rfl),wrapB _ (by omega) (by omega)]
  rfl
 ·have g := hj5 e j R hj (by omega) (by omega) h2;refine Ev.step (fun k => ?_) g;rw [r1_Round.j4,if_neg (by omega)]
def rnd2 (y : Nat) (lost : Bool) : Nat := if 2 < y % 4 ∨ (y % 4 = 2 ∧ (lost = true ∨ y / 4 % 2 = 1)) then y / 4 + 1 else y / 4
theorem zGQ (y : Nat) (lost : Bool) (e : Int) (j : Nat) (hy : y < 36028797018963968) (hj : (j : Int) = e + 1074) (hb : j ≤ 100000) (h2 : j = 0 ∨ 4503599627370496 ≤ y / 4) :
  Ev (fun k => r1_Round.j2 k false e (toD y) lost) ((min (j * 4503599627370496 + rnd2 y lost) INF : Nat) : Int) := by
 have hs := zVA y (by omega)
 have hlow : Go.bits .and .u64 (y : Int) 3 = ((y % 4 : Nat) : Int) := by
  have := zYo y 3 (by omega) (by decide);rw [show (3 : Nat) = 2 ^ 2 - 1 from rfl,Nat.and_two_pow_sub_one_eq_mod] at this;exact this
 (have hq : ((y : Int) / 4) = ((y / 4 : Nat) : Int) := by omega);have hmod : Int.tmod ((y / 4 : Nat) : Int) 2 = ((y / 4 % 2 : Nat) : Int) := by rw [Int.tmod_eq_emod_of_nonneg (by omega)];omega
 have hj3 : ∀ (z : Bool),Ev (fun k => r1_Round.j3 k false e ((y / 4 : Nat) : Int) z) ((min (j * 4503599627370496 + (if z = true then y / 4 + 1 else y / 4)) INF : Nat) : Int) := by
  intro z;have g := zGR e j (if z = true then y / 4 + 1 else y / 4) hj hb (by split <;> omega) (by split <;> omega);refine Ev.step (fun k => ?_) g;rw [r1_Round.j3]
  cases z with
  | true => rw [if_pos rfl,if_pos rfl,show (((y / 4 : Nat) : Int) + 1) = ((y / 4 + 1 : Nat) : Int) by omega,u64_in _ (by omega)]
  | false => rw [if_neg (by decide),if_neg (by decide)]
 have hgo : ∀ z : Bool,(z = true ↔ (2 < y % 4 ∨ (y % 4 = 2 ∧ (lost = true ∨ y / 4 % 2 = 1)))) → (if z = true then y / 4 + 1 else y / 4) = rnd2 y lost := by
  intro z hz;unfold rnd2
  cases z with
  | true => rw [if_pos rfl,if_pos (hz.1 rfl)]
  | false => rw [if_neg (by decide),if_neg (fun c => by have := hz.2 c;cases this)]
 by_cases c1 : 2 < y % 4
 ·have g := hj3 true;rw [hgo true ⟨fun _ => .inl c1,fun _ => rfl⟩] at g;refine Ev.step (fun k => ?_) g;rw [r1_Round.j2,hs,Option.bind_some,Option.bind_some,hlow,if_pos (by omega),hq]
 ·by_cases c2 : y % 4 = 2
  ·cases lost with
   | true =>
    have g := hj3 true;rw [hgo true ⟨fun _ => .inr ⟨c2,.inl rfl⟩,fun _ => rfl⟩] at g;refine Ev.step (fun k => ?_) g;rw [r1_Round.j2,hs,Option.bind_some,Option.bind_some,hlow,if_neg (by omega),if_pos (by omega),if_pos rfl,hq]
   | false =>
    have g := hj3 (((y / 4 % 2 : Nat) : Int) == 1)
    rw [hgo _ ⟨fun h => .inr ⟨c2,.inr (by have := beq_iff_eq.1 h;omega)⟩,fun h => beq_iff_eq.2 (by
     rcases h with h | h
     ·omega
     ·rcases h.2 with h3 | h3
      ·cases h3
      ·omega)⟩] at g
    refine Ev.step (fun k => ?_) g;rw [r1_Round.j2,hs,Option.bind_some,Option.bind_some,hlow,if_neg (by omega),if_pos (by omega),if_neg (by decide),hq,hmod]
  ·have g := hj3 false;rw [hgo false ⟨(fun h => by cases h),(fun h => by omega)⟩] at g;refine Ev.step (fun k => ?_) g;rw [r1_Round.j2,hs,Option.bind_some,Option.bind_some,hlow,if_neg (by omega),if_neg (by omega),hq]
theorem zKd {A B P M y R j : Nat} (hB : 0 < B) (hP : 0 < P) (hM : 0 < M) (hK : K * (M * 2 ^ 2) = 2 ^ (j + 1) * P) (hA : A * P = y * (B * M) + R) (hR : R < B * M) (h1 : y / 4 < 9007199254740992) (h2 : j = 0 ∨ 4503599627370496 ≤ y / 4) (lost : Bool) (hl : lost = true ↔ 0 < R) :
  zXA A B (j * 4503599627370496 + rnd2 y lost) := by
 have h := zKI (n := 2) hB hP hM (by decide) hK hA hR h1 h2
 have e : rnd2 y lost = if 2 ^ (2 - 1) < y % 2 ^ 2 ∨ (y % 2 ^ 2 = 2 ^ (2 - 1) ∧ (0 < R ∨ y / 2 ^ 2 % 2 = 1)) then y / 2 ^ 2 + 1 else y / 2 ^ 2 := by
  unfold rnd2;simp only [hl]
 rw [e];exact h
theorem zGh {A B P M x R L : Nat} {e : Int} (hB : 0 < B) (hP : 0 < P) (hM : 0 < M) (hA : A * P = x * (B * M) + R) (hR : R < B * M) (hx : x < 2 ^ L) (he : L + e < -1100)
  (hK : ∀ n j : Nat,(j : Int) = e + n + 1074 → K * (M * 2 ^ n) = 2 ^ (j + 1) * P) : zXA A B 0 := by
 refine zZM ?_
 obtain ⟨n,hn⟩ : ∃ n : Nat,(n : Int) = -1074 - e := ⟨(-1074 - e).toNat,by omega⟩;have hKK := hK n 0 (by omega);rw [Nat.zero_add,Nat.pow_one] at hKK
 have c1 : A * P < 2 ^ L * (B * M) := by
  have := Nat.mul_le_mul_right (B * M) (show x + 1 ≤ 2 ^ L from hx);rw [Nat.add_mul,Nat.one_mul] at this;omega
 have c2 : A * P * (K * 2 ^ n) < 2 ^ L * (B * M) * (K * 2 ^ n) := Nat.mul_lt_mul_of_pos_right c1 (Nat.mul_pos K_pos (Nat.two_pow_pos n))
 have c3 : 2 ^ L * (B * M) * (K * 2 ^ n) = 2 ^ (L + 1) * B * P := by
  (have : 2 ^ L * (B * M) * (K * 2 ^ n) = 2 ^ L * B * (K * (M * 2 ^ n)) := by simp only [Nat.mul_assoc,Nat.mul_comm,Nat.mul_left_comm]);rw [this,hKK,Nat.pow_succ];simp only [Nat.mul_assoc,Nat.mul_comm,Nat.mul_left_comm]
 (have c4 : A * P * (K * 2 ^ n) = A * K * 2 ^ n * P := by simp only [Nat.mul_assoc,Nat.mul_comm,Nat.mul_left_comm]);rw [c3,c4] at c2;have c5 := Nat.lt_of_mul_lt_mul_right c2;have c6 : A * K * 2 ^ (L + 1) ≤ A * K * 2 ^ n := Nat.mul_le_mul_left _ (Nat.pow_le_pow_right (by decide) (by omega));have c7 : A * K * 2 ^ (L + 1) < 2 ^ (L + 1) * B := Nat.lt_of_le_of_lt c6 c5;rw [Nat.mul_comm _ (2 ^ (L + 1))] at c7;exact Nat.lt_of_mul_lt_mul_left c7
theorem zBo {A B P M x R : Nat} {e : Int} (m : Nat) (hm : m ≤ 20000) (hB : 0 < B) (hP : 0 < P) (hM : 0 < M) (hA : A * P = x * (B * M) + R) (hR : R < B * M) (hx : x ≠ 0) (hbig : R = 0 ∨ 2 ^ 60 ≤ x) (he : -8000 ≤ e) (he2 : e ≤ 8000) (hxl : x < 2 ^ m)
  (hK : ∀ n j : Nat,(j : Int) = e + n + 1074 → K * (M * 2 ^ n) = 2 ^ (j + 1) * P) :
  ∃ v,zXA A B v ∧ Ev (fun k => r1_Round.f k false e (toD x) (decide (0 < R))) ((min v INF : Nat) : Int) := by
 have hll := zYE hxl;obtain ⟨L,hL1,hL2,hL3⟩ := zWD (toD x) (zXh x) (by omega);rw [zXs] at hL2;obtain ⟨g1,g2,g3⟩ := hL2.2 hx;have hL20 := zWJ hL2 hxl
 have hstart : ∀ r : Int,Ev (fun k => r1_Round.j0 k false e (toD x) (decide (0 < R)) (L : Int) (decide ((wrap64 ((L : Int) + e)) < (-1100)))) r → Ev (fun k => r1_Round.f k false e (toD x) (decide (0 < R))) r := by
  intro r hr;refine Ev.congr (fun k => ?_) (Ev.bind hL3 (f := fun k t505 => if t505 = 0 then (if decide (0 < R) = true then (r1_Round.j0 k false e (toD x) (decide (0 < R)) t505 (decide ((wrap64 (t505 + e)) < (-1100)))) else (r1_Round.j0 k false e (toD x) (decide (0 < R)) t505 true)) else (r1_Round.j0 k false e (toD x) (decide (0 < R)) t505 (decide ((wrap64 (t505 + e)) < (-1100))))) (Ev.congr (fun k => if_neg (by omega)) hr))
  rfl
 have hwL : wrap64 ((L : Int) + e) = (L : Int) + e := wrapB _ (by omega) (by omega);rw [hwL] at hstart;by_cases hlow : (L : Int) + e < -1100
 ·refine ⟨0,zGh hB hP hM hA hR g3 hlow hK,hstart _ ?_⟩;refine Ev.step (f := fun _ => some ((min 0 INF : Nat) : Int)) (fun k => ?_) (Ev.now _);rw [r1_Round.j0,if_pos (decide_eq_true hlow),zZz,Option.bind_some,Nat.zero_min]
  rfl
 ·
  obtain ⟨drop,hd1,hd2,hd3⟩ : ∃ drop : Int,(L : Int) - 53 ≤ drop ∧ -1074 - e ≤ drop ∧ (drop = (L : Int) - 53 ∨ drop = -1074 - e) := by
   by_cases h : -1074 - e ≤ (L : Int) - 53
   ·exact ⟨(L : Int) - 53,by omega,h,.inl rfl⟩
   ·exact ⟨-1074 - e,by omega,by omega,.inr rfl⟩
  obtain ⟨j,hj⟩ : ∃ j : Nat,(j : Int) = e + drop + 1074 := ⟨(e + drop + 1074).toNat,by omega⟩
  obtain ⟨y,lost,hy,hj0,hnear,hrun⟩ : ∃ (y : Nat) (lost : Bool),y < 36028797018963968 ∧ (j = 0 ∨ 4503599627370496 ≤ y / 4) ∧ zXA A B (j * 4503599627370496 + rnd2 y lost) ∧
    (∀ r : Int,Ev (fun k => r1_Round.j2 k false (e + drop) (toD y) lost) r → Ev (fun k => r1_Round.j1 k false e (toD x) (decide (0 < R)) drop) r) := by
   have hwe : wrap64 (e + drop) = e + drop := wrapB _ (by omega) (by omega);by_cases h2 : 2 ≤ drop
   ·obtain ⟨d,hd⟩ : ∃ d : Nat,(d : Int) = drop - 2 := ⟨(drop - 2).toNat,by omega⟩;have hBM : 0 < B * M := Nat.mul_pos hB hM;have hdm := Nat.div_add_mod x (2 ^ d);have hml := Nat.mod_lt x (Nat.two_pow_pos d)
    have hylt : x / 2 ^ d < 36028797018963968 := by
     rw [Nat.div_lt_iff_lt_mul (Nat.two_pow_pos d),show (36028797018963968 : Nat) = 2 ^ 55 from rfl,← Nat.pow_add];exact Nat.lt_of_lt_of_le g3 (Nat.pow_le_pow_right (by decide) (by omega))
    have hge : j = 0 ∨ 4503599627370496 ≤ x / 2 ^ d / 4 := by
     rcases hd3 with h | h
     ·refine .inr ?_
      have : 2 ^ 54 ≤ x / 2 ^ d := by
       rw [Nat.le_div_iff_mul_le (Nat.two_pow_pos d),← Nat.pow_add];exact Nat.le_trans (Nat.pow_le_pow_right (by decide) (by omega)) g2
      omega
     ·exact .inl (by omega)
    have hA' : A * P = x / 2 ^ d * (B * (M * 2 ^ d)) + (x % 2 ^ d * (B * M) + R) := by
     rw [hA,← Nat.add_assoc]
     congr 1
     rw [← Nat.mul_assoc B M,show x / 2 ^ d * (B * M * 2 ^ d) = 2 ^ d * (x / 2 ^ d) * (B * M) by simp only [Nat.mul_assoc,Nat.mul_comm,Nat.mul_left_comm],← Nat.add_mul,hdm]
    have hR' : x % 2 ^ d * (B * M) + R < B * (M * 2 ^ d) := by
     have h1 : (x % 2 ^ d + 1) * (B * M) ≤ 2 ^ d * (B * M) := Nat.mul_le_mul_right _ hml;rw [Nat.add_mul,Nat.one_mul] at h1;rw [← Nat.mul_assoc B M,Nat.mul_comm (B * M)];omega
    have hK' : K * (M * 2 ^ d * 2 ^ 2) = 2 ^ (j + 1) * P := by
     rw [Nat.mul_assoc M,← Nat.pow_add];exact hK (d + 2) j (by omega)
    have hlost : (decide (0 < R) || decide (x % 2 ^ d ≠ 0)) = true ↔ 0 < x % 2 ^ d * (B * M) + R := by
     rw [Bool.or_eq_true,decide_eq_true_iff,decide_eq_true_iff];constructor
     ·rintro (h | h)
      ·omega
      ·have := Nat.mul_pos (Nat.pos_of_ne_zero h) hBM;omega
     ·intro h;by_cases h0 : 0 < R
      ·exact .inl h0
      ·refine .inr (fun hz => ?_);rw [hz,Nat.zero_mul] at h;omega
    refine ⟨x / 2 ^ d,(decide (0 < R) || decide (x % 2 ^ d ≠ 0)),hylt,hge,zKd hB hP (Nat.mul_pos hM (Nat.two_pow_pos d)) hK' hA' hR' (by omega) hge _ hlost,fun r hr => ?_⟩;have hdn := zGT (toD x) (zXh x) (by omega) d (by omega);rw [zXs] at hdn;refine Ev.step (fun k => ?_) (Ev.bind hdn (f := fun k bt511 => if decide (0 < R) = true then (r1_Round.j2 k false (e + drop) bt511.1 true) else (r1_Round.j2 k false (e + drop) bt511.1 bt511.2)) ?_)
    ·rw [r1_Round.j1,if_pos h2,wrapB (drop - 2) (by omega) (by omega),← hd,hwe]
    ·by_cases h0 : 0 < R
     ·rw [decide_eq_true h0,Bool.true_or] at hr;simp only [decide_eq_true h0,if_true];exact hr
     ·rw [decide_eq_false h0,Bool.false_or] at hr;simp only [decide_eq_false h0,Bool.false_eq_true,if_false];exact hr
   ·
    have hR0 : R = 0 := by
     rcases hbig with h | h
     ·exact h
     ·exfalso
      have : 2 ^ 60 < 2 ^ L := Nat.lt_of_le_of_lt h g3;have := (Nat.pow_lt_pow_iff_right (by decide : 1 < 2)).1 this;omega
    subst hR0;obtain ⟨s,hs⟩ : ∃ s : Nat,(s : Int) = 2 - drop := ⟨(2 - drop).toNat,by omega⟩
    have hylt : x * 2 ^ s < 36028797018963968 := by
     have h1 : x * 2 ^ s < 2 ^ L * 2 ^ s := Nat.mul_lt_mul_of_pos_right g3 (Nat.two_pow_pos s);rw [← Nat.pow_add] at h1;rw [show (36028797018963968 : Nat) = 2 ^ 55 from rfl];exact Nat.lt_of_lt_of_le h1 (Nat.pow_le_pow_right (by decide) (by omega))
    have hge : j = 0 ∨ 4503599627370496 ≤ x * 2 ^ s / 4 := by
     rcases hd3 with h | h
     ·refine .inr ?_
      have : 2 ^ 54 ≤ x * 2 ^ s := by
       have h1 : 2 ^ (L - 1) * 2 ^ s ≤ x * 2 ^ s := Nat.mul_le_mul_right _ g2;rw [← Nat.pow_add] at h1;exact Nat.le_trans (Nat.pow_le_pow_right (by decide) (by omega)) h1
      omega
     ·exact .inl (by omega)
    have hA' : A * (P * 2 ^ s) = x * 2 ^ s * (B * M) + 0 := by
     rw [← Nat.mul_assoc,hA,Nat.add_zero,Nat.add_zero];simp only [Nat.mul_assoc,Nat.mul_comm,Nat.mul_left_comm]
    have hK' : K * (M * 2 ^ 2) = 2 ^ (j + 1) * (P * 2 ^ s) := by
     have h1 := hK 2 (j + s) (by omega);rw [h1,show j + s + 1 = j + 1 + s by omega,Nat.pow_add];simp only [Nat.mul_assoc,Nat.mul_comm,Nat.mul_left_comm]
    refine ⟨x * 2 ^ s,false,hylt,hge,zKd hB (Nat.mul_pos hP (Nat.two_pow_pos s)) hM hK' hA' hR (by omega) hge _ ⟨(fun h => by cases h),(fun h => by omega)⟩,fun r hr => ?_⟩;have hup := zVD (toD x) (zXh x) s (by omega);rw [zXs] at hup;refine Ev.step (fun k => ?_) (Ev.bind hup (f := fun k t515 => r1_Round.j2 k false (e + drop) t515 false) hr);rw [r1_Round.j1,if_neg (by omega),wrapB (2 - drop) (by omega) (by omega),← hs,hwe]
    rfl
  refine ⟨_,hnear,hstart _ ?_⟩;by_cases hfar : (L : Int) + e > 1100
  ·have hinf : INF ≤ j * 4503599627370496 + rnd2 y lost := by
    unfold INF;omega
   rw [Nat.min_eq_right hinf];refine Ev.step (f := fun _ => some ((INF : Nat) : Int)) (fun k => ?_) (Ev.now _);rw [r1_Round.j0,if_neg (fun c => hlow (of_decide_eq_true c)),hwL,if_pos hfar,zKB,Option.bind_some]
  ·have ht := hrun _ (zGQ y lost (e + drop) j hy (by omega) (by omega) hj0);have hw1 : wrap64 ((-1074) - e) = -1074 - e := wrapB _ (by omega) (by omega);have hw2 : wrap64 ((L : Int) - 53) = (L : Int) - 53 := wrapB _ (by omega) (by omega);refine Ev.step (fun k => ?_) ht;rw [r1_Round.j0,if_neg (fun c => hlow (of_decide_eq_true c)),hwL,if_neg hfar,hw1,hw2];by_cases hc : -1074 - e > (L : Int) - 53
   ·rw [if_pos hc,show -1074 - e = drop by omega]
   ·rw [if_neg hc,show (L : Int) - 53 = drop by omega]
theorem zJY (r : Nat) : decide (((toD r).length : Int) > 0) = decide (0 < r) := by
 by_cases h : r = 0
 ·subst h;rw [zXp];rfl
 ·rw [zYi h,List.length_cons,decide_eq_true (by omega),decide_eq_true (by omega)]
theorem zGU {D t ld lt u : Nat} (hD : D ≠ 0) (ht : t ≠ 0) (hd : LenIs D ld) (hl : LenIs t lt) (h : lt + 61 ≤ ld + u) : 2 ^ 60 ≤ D * 2 ^ u / t := by
 obtain ⟨a1,a2,a3⟩ := hd.2 hD;obtain ⟨b1,b2,b3⟩ := hl.2 ht;rw [Nat.le_div_iff_mul_le (Nat.pos_of_ne_zero ht)];have h1 : 2 ^ 60 * t ≤ 2 ^ 60 * 2 ^ lt := Nat.mul_le_mul_left _ (Nat.le_of_lt b3);rw [← Nat.pow_add] at h1;have h2 : 2 ^ (60 + lt) ≤ 2 ^ (ld - 1 + u) := Nat.pow_le_pow_right (by decide) (by omega);rw [Nat.pow_add 2 (ld - 1)] at h2;have h3 : 2 ^ (ld - 1) * 2 ^ u ≤ D * 2 ^ u := Nat.mul_le_mul_right _ a2;omega
theorem zFh (s : ByteArray) (e : Int) (hs : zQH s) (hsz : s.size ≤ 400) (he : -100000 ≤ e) (he2 : e ≤ 100000) : ∃ w,zYJ (dval s s.size) e w ∧ Ev (fun k => r5_Near.f k s e) ((w : Nat) : Int) := by
 have hwh := zGG s hs (by omega);have hD1 : dval s s.size < 2 ^ (4 * s.size + 1) := Nat.lt_trans (zKF s hs s.size (Nat.le_refl _)) (zYW s.size);obtain ⟨m,hm⟩ : ∃ m,m = 4 * s.size + 1 := ⟨_,rfl⟩;(have hD : dval s s.size < 2 ^ m := by rw [hm];exact hD1);(have hm2 : m ≤ 1601 := by omega);clear hm;obtain ⟨D,hDD⟩ : ∃ D,D = dval s s.size := ⟨_,rfl⟩;rw [← hDD] at hwh hD ⊢;clear hD1 hDD;have hlD := zYE hD
 have hgo : ∀ w : Int,Ev (fun k => if ((toD D).length : Int) = 0 then (r5_Near.j0 k (toD D) true s e) else (r5_Near.j0 k (toD D) (decide (e < (-1000))) s e)) w → Ev (fun k => r5_Near.f k s e) w := by
  intro w h;exact Ev.bind hwh (f := fun k t584 => if (t584.length : Int) = 0 then (r5_Near.j0 k t584 true s e) else (r5_Near.j0 k t584 (decide (e < (-1000))) s e)) h
 unfold zYJ;by_cases h1 : D = 0 ∨ e < -1000
 ·refine ⟨0,by rw [if_pos h1],hgo _ ?_⟩;have hz : Ev (fun k => r5_Near.j0 k (toD D) true s e) ((0 : Nat) : Int) := Ev.step (f := fun _ => some 0) (fun k => by rw [r5_Near.j0,if_pos rfl]) (Ev.now _);by_cases h0 : ((toD D).length : Int) = 0
  ·simp only [if_pos h0];exact hz
  ·(have hD0 : D ≠ 0 := by intro h;rw [h,zXp] at h0;exact h0 rfl);have he3 : e < -1000 := h1.resolve_left hD0;simp only [if_neg h0,decide_eq_true he3];exact hz
 ·(have hD0 : D ≠ 0 := fun h => h1 (.inl h));(have he3 : ¬ e < -1000 := fun h => h1 (.inr h));(have hlen : ¬ ((toD D).length : Int) = 0 := by rw [zYi hD0,List.length_cons];omega);simp only [if_neg hlen,decide_eq_false he3] at hgo;by_cases h2 : 400 < e
  ·refine ⟨INF,by rw [if_neg h1,if_pos h2],hgo _ ?_⟩;refine Ev.step (f := fun _ => some ((INF : Nat) : Int)) (fun k => ?_) (Ev.now _);rw [r5_Near.j0,if_neg (by decide),if_pos h2,zKB,Option.bind_some]
  ·by_cases h3 : e ≥ 0
   ·obtain ⟨n,rfl⟩ := Int.eq_ofNat_of_zero_le h3;have hten := zHA n (by omega);have h10 := zYW n;have hlt := zYE h10;have hpr := zZk (toD D) (toD (10 ^ n)) (zXh _) (zXh _) (by omega) (by omega);rw [zXs,zXs] at hpr
    have hx : D * 10 ^ n < 2 ^ (m + (4 * n + 1)) := by
     have : D * 10 ^ n < 2 ^ m * 2 ^ (4 * n + 1) := Nat.mul_lt_mul'' hD h10
     rwa [← Nat.pow_add] at this
    obtain ⟨v,hv,hve⟩ := zBo (m + (4 * n + 1)) (by omega) (A := D * 10 ^ n) (B := 1) (P := 1) (M := 1) (x := D * 10 ^ n) (R := 0) (e := 0) (by decide) (by decide) (by decide) (by omega) (by decide) (Nat.mul_ne_zero hD0 (Nat.ne_of_gt (Nat.pow_pos (by decide)))) (.inl rfl) (by decide) (by decide) hx
     (fun n' j hj => by have := zBe 0 0 0 n' j hj (by decide);rw [Nat.pow_zero] at this;exact this)
    refine ⟨min v INF,?_,hgo _ ?_⟩
    ·rw [if_neg h1,if_neg h2];refine ⟨v,?_,rfl⟩;unfold upN loN;rw [show (-(n : Int)).toNat = 0 by omega,Nat.pow_zero,Int.toNat_natCast];exact hv
    ·have hve : Ev (fun k => r1_Round.f k false 0 (toD (D * 10 ^ n)) false) ((min v INF : Nat) : Int) := hve;refine Ev.step (fun k => ?_) (Ev.bind hten (f := fun k t588 => (r1_Product.f k (toD D) t588).bind fun t591 => (r1_Round.f k false 0 t591 false).bind fun t594 => some t594) (Ev.bind hpr (Ev.bind hve (Ev.now _))));rw [r5_Near.j0,if_neg (by decide),if_neg h2,if_pos h3]
   ·obtain ⟨n,hn⟩ := Int.eq_ofNat_of_zero_le (show 0 ≤ -e by omega);have hten := zHA n (by omega);have h10 := zYW n;have hlt := zYE h10;have ht0 : 10 ^ n ≠ 0 := Nat.ne_of_gt (Nat.pow_pos (by decide));obtain ⟨lt,t1,t2,t3⟩ := zWD (toD (10 ^ n)) (zXh _) (by omega);obtain ⟨ld,d1,d2,d3⟩ := zWD (toD D) (zXh _) (by omega);rw [zXs] at t2 d2;have hlt2 := zWJ t2 h10;have hld2 := zWJ d2 hD
    have hrest : ∀ u : Nat,lt + 61 ≤ ld + u → u ≤ 6000 → ∃ v,zXA D (10 ^ n) v ∧ Ev (fun k => (r1_Up.f k (toD D) (u : Int)).bind fun t610 => ((r1_Divide.f k t610 (toD (10 ^ n))).bind fun bt613 => ((r1_Round.f k false (-(u : Int)) bt613.1 (decide ((bt613.2.length : Int) > 0))).bind fun t619 => (some t619)))) ((min v INF : Nat) : Int) := by
     intro u hu hu2;have hup := zVD (toD D) (zXh _) u (by omega);rw [zXs] at hup;(have hxu : D * 2 ^ u < 2 ^ (m + u) := by rw [Nat.pow_add];exact Nat.mul_lt_mul_of_pos_right hD (Nat.two_pow_pos u));have hlu := zYE hxu;have hdv := zFb (toD (D * 2 ^ u)) (toD (10 ^ n)) (zXh _) (zXh _) (by rw [zXs];exact ht0) (by omega) (by omega);rw [zXs,zXs] at hdv;have hq := zGU hD0 ht0 d2 t2 hu
     obtain ⟨v,hv,hve⟩ := zBo (m + u) (by omega) (A := D) (B := 10 ^ n) (P := 2 ^ u) (M := 1) (x := D * 2 ^ u / 10 ^ n) (R := D * 2 ^ u % 10 ^ n) (e := -(u : Int)) (Nat.pos_of_ne_zero ht0) (Nat.two_pow_pos u) (by decide)
      (by rw [Nat.mul_one,Nat.mul_comm (D * 2 ^ u / 10 ^ n)];exact (Nat.div_add_mod ..).symm) (by rw [Nat.mul_one];exact Nat.mod_lt _ (Nat.pos_of_ne_zero ht0)) (by
       have : 0 < 2 ^ 60 := Nat.two_pow_pos 60
       omega) (.inr hq) (by omega) (by omega) (Nat.lt_of_le_of_lt (Nat.div_le_self ..) hxu)
      (fun n' j hj => by have := zBe (-(u : Int)) u 0 n' j hj (by omega);rw [Nat.pow_zero] at this;exact this)
     refine ⟨v,hv,?_⟩;rw [← zJY] at hve;exact Ev.bind hup (Ev.bind hdv (f := fun k bt613 => (r1_Round.f k false (-(u : Int)) bt613.1 (decide ((bt613.2.length : Int) > 0))).bind fun t619 => (some t619)) (Ev.bind hve (Ev.now _)))
    have hw1 : wrap64 ((lt : Int) - (ld : Int)) = (lt : Int) - ld := wrapB _ (by omega) (by omega);have hw2 : wrap64 ((lt : Int) - (ld : Int) + 70) = (lt : Int) - ld + 70 := wrapB _ (by omega) (by omega);have hw0 : wrap64 (-e) = (n : Int) := by rw [wrapB _ (by omega) (by omega)];exact hn
    have hread : ∀ v,zXA D (10 ^ n) v → (if D = 0 ∨ e < -1000 then min v INF = 0 else if 400 < e then min v INF = INF else ∃ v',zXA (upN D e) (loN e) v' ∧ min v INF = min v' INF) := by
     intro v hv;rw [if_neg h1,if_neg h2];refine ⟨v,?_,rfl⟩;unfold upN loN;rw [show e.toNat = 0 by omega,show (-e).toNat = n by omega,Nat.pow_zero,Nat.mul_one];exact hv
    by_cases hneg : (lt : Int) - ld + 70 < 0
    ·obtain ⟨v,hv,hve⟩ := hrest 0 (by omega) (by omega);refine ⟨min v INF,hread v hv,hgo _ ?_⟩
     refine Ev.step (fun k => ?_) (Ev.bind hten (f := fun k t595 => (r1_Len.f k t595).bind fun t598 => (r1_Len.f k (toD D)).bind fun t599 => (if (wrap64 ((wrap64 (t598 - t599)) + 70)) < 0 then ((r1_Up.f k (toD D) 0).bind fun t600 => ((r1_Divide.f k t600 t595).bind fun bt603 => ((r1_Round.f k false 0 bt603.1 (decide ((bt603.2.length : Int) > 0))).bind fun t609 => (some t609)))) else ((r1_Up.f k (toD D) (wrap64 ((wrap64 (t598 - t599)) + 70))).bind fun t610 => ((r1_Divide.f k t610 t595).bind fun bt613 => ((r1_Round.f k false (wrap64 (-(wrap64 ((wrap64 (t598 - t599)) + 70)))) bt613.1 (decide ((bt613.2.length : Int) > 0))).bind fun t619 => (some t619))))))
      (Ev.bind t3 (Ev.bind d3 (Ev.congr (fun k => by rw [hw1,hw2,if_pos hneg];rfl) hve))))
     rw [r5_Near.j0,if_neg (by decide),if_neg h2,if_neg h3,hw0]
    ·obtain ⟨u,hu⟩ := Int.eq_ofNat_of_zero_le (show 0 ≤ (lt : Int) - ld + 70 by omega);obtain ⟨v,hv,hve⟩ := hrest u (by omega) (by omega);(have hw3 : wrap64 (-((lt : Int) - ld + 70)) = -(u : Int) := by rw [wrapB _ (by omega) (by omega),hu]);refine ⟨min v INF,hread v hv,hgo _ ?_⟩
     refine Ev.step (fun k => ?_) (Ev.bind hten (f := fun k t595 => (r1_Len.f k t595).bind fun t598 => (r1_Len.f k (toD D)).bind fun t599 => (if (wrap64 ((wrap64 (t598 - t599)) + 70)) < 0 then ((r1_Up.f k (toD D) 0).bind fun t600 => ((r1_Divide.f k t600 t595).bind fun bt603 => ((r1_Round.f k false 0 bt603.1 (decide ((bt603.2.length : Int) > 0))).bind fun t609 => (some t609)))) else ((r1_Up.f k (toD D) (wrap64 ((wrap64 (t598 - t599)) + 70))).bind fun t610 => ((r1_Divide.f k t610 t595).bind fun bt613 => ((r1_Round.f k false (wrap64 (-(wrap64 ((wrap64 (t598 - t599)) + 70)))) bt613.1 (decide ((bt613.2.length : Int) > 0))).bind fun t619 => (some t619))))))
      (Ev.bind t3 (Ev.bind d3 (Ev.congr (fun k => by rw [hw1,hw2,if_neg hneg,hw3,hu]) hve))))
     rw [r5_Near.j0,if_neg (by decide),if_neg h2,if_neg h3,hw0]
theorem zVb (s : ByteArray) : ∃ (a : Nat) (e : Int),a ≤ INF ∧ (e = 0 ∨ a = 0) ∧ Ev (fun k => dec_Parse.f k s) ((a : Int),e) ∧ Ev (fun k => r5_Parse.f k s) ((a : Int),e) := by
 by_cases h4 : (s.size : Int) > 400
 ·refine ⟨0,2,Nat.zero_le _,.inr rfl,Ev.congr (fun k => ?_) (Ev.now _),Ev.congr (fun k => ?_) (Ev.now _)⟩
  ·unfold dec_Parse.f;rw [if_pos h4]
   rfl
  ·unfold r5_Parse.f;rw [if_pos h4]
   rfl
 ·obtain ⟨r,r',h1,h2,h3,h5⟩ := zVJ s (by omega)
  have g1 : ∀ q : Int × Int,Ev (fun k => if r.2.2 = true then ((dec_nearest.f k r.1 r.2.1).bind fun t => (some (t,(0 : Int)))) else (some ((0 : Int),(4 : Int)))) q → Ev (fun k => dec_Parse.f k s) q := by
   intro q hq;refine Ev.congr (fun k => ?_) (Ev.bind h1 (f := fun k bt => if bt.2.2 = true then ((dec_nearest.f k bt.1 bt.2.1).bind fun t => (some (t,(0 : Int)))) else (some (0,4))) hq);unfold dec_Parse.f;rw [if_neg h4]
  have g2 : ∀ q : Int × Int,Ev (fun k => if r'.2.2 = true then ((r5_Near.f k r'.1 r'.2.1).bind fun t => (some (t,(0 : Int)))) else (some ((0 : Int),(4 : Int)))) q → Ev (fun k => r5_Parse.f k s) q := by
   intro q hq;refine Ev.congr (fun k => ?_) (Ev.bind h2 (f := fun k bt => if bt.2.2 = true then ((r5_Near.f k bt.1 bt.2.1).bind fun t => (some (t,(0 : Int)))) else (some (0,4))) hq);unfold r5_Parse.f;rw [if_neg h4]
  cases hz : r.2.2 with
  | false =>
   rw [hz] at h3;refine ⟨0,4,Nat.zero_le _,.inr rfl,g1 _ (Ev.congr (fun k => if_neg (by rw [hz];decide)) (Ev.now _)),g2 _ (Ev.congr (fun k => if_neg (by rw [← h3];decide)) (Ev.now _))⟩
  | true =>
   obtain ⟨e,ha,hs,l1,l2⟩ := h5 hz;subst e;obtain ⟨v,hv,hve⟩ := zWh r.1 r.2.1 ha hs (by omega) (by omega);obtain ⟨w,hw,hwe⟩ := zFh r.1 r.2.1 ha hs (by omega) (by omega);obtain rfl := zBZ hv hw;exact ⟨v,0,zVa hv,.inl rfl,g1 _ (Ev.congr (fun k => if_pos hz) (Ev.bind hve (Ev.now _))),g2 _ (Ev.congr (fun k => if_pos hz) (Ev.bind hwe (Ev.now _)))⟩
theorem zHg (a : Nat) (h : a < 18446744073709551616) : Go.bits .and .u64 ((a : Int) / 4503599627370496) 2047 = ((a / 4503599627370496 % 2048 : Nat) : Int) := by
 have := zBO (a / 4503599627370496) (by omega);rw [← this]
 congr 1
theorem zJi (a : Nat) (h : a < 18446744073709551616) : Ev (fun k => r1_Kind.f k (a : Int)) (kindV a) := by
 have hr : rung a = a % 9223372036854775808 := rfl;have hq := zHg a h;have hf : Go.bits .and .u64 (a : Int) 4503599627370495 = ((a % 4503599627370496 : Nat) : Int) := zZv a h;unfold r1_Kind.f kindV nanB infB;rw [hq,hf];by_cases c1 : a / 4503599627370496 % 2048 = 2047
 ·by_cases c2 : a % 4503599627370496 = 0
  ·rw [if_neg (by rw [decide_eq_true_iff];omega),if_neg (by omega),if_pos (by rw [decide_eq_true_iff];omega)];refine Ev.congr (fun k => if_pos (by omega)) (Ev.step (f := fun _ => some 3) (fun k => ?_) (Ev.now _));rw [r1_Kind.j0,if_neg (by rw [c2];decide),if_pos (by omega)]
  ·(have hn : (((a % 4503599627370496 : Nat) : Int) != 0) = true := by rw [bne_iff_ne];omega);rw [if_pos (by rw [decide_eq_true_iff];omega)];refine Ev.congr (fun k => if_pos (by omega)) (Ev.step (f := fun _ => some 4) (fun k => ?_) (Ev.now _));rw [r1_Kind.j0,if_pos hn]
 ·rw [if_neg (by rw [decide_eq_true_iff];omega)];by_cases c2 : a / 4503599627370496 % 2048 = 0
  ·by_cases c3 : a % 4503599627370496 = 0
   ·rw [if_pos (by omega)];refine Ev.congr (fun k => if_neg (by omega)) (Ev.step (fun k => ?_) (Ev.step (f := fun _ => some 0) (g := fun k => r1_Kind.j1 k ((a / 4503599627370496 % 2048 : Nat) : Int) true) (fun k => ?_) (Ev.now _)))
    ·rw [r1_Kind.j0,if_neg (by decide),if_neg (by omega),if_pos (by omega),c3]
     rfl
    ·rw [r1_Kind.j1,if_pos rfl]
   ·have hn : (((a % 4503599627370496 : Nat) : Int) == 0) = false := beq_eq_false_iff_ne.2 (by omega);rw [if_neg (by omega),if_neg (by rw [decide_eq_true_iff];omega),if_pos (by omega)];refine Ev.congr (fun k => if_neg (by omega)) (Ev.step (fun k => ?_) (Ev.step (f := fun _ => some 1) (g := fun k => r1_Kind.j1 k ((a / 4503599627370496 % 2048 : Nat) : Int) false) (fun k => ?_) (Ev.now _)))
    ·rw [r1_Kind.j0,if_neg (by decide),if_neg (by omega),if_pos (by omega),hn]
    ·rw [r1_Kind.j1,if_neg (by decide),if_pos (by omega)]
  ·rw [if_neg (by omega),if_neg (by rw [decide_eq_true_iff];omega),if_neg (by omega)];refine Ev.congr (fun k => if_neg (by omega)) (Ev.step (fun k => ?_) (Ev.step (f := fun _ => some 2) (g := fun k => r1_Kind.j1 k ((a / 4503599627370496 % 2048 : Nat) : Int) false) (fun k => ?_) (Ev.now _)))
   ·rw [r1_Kind.j0,if_neg (by decide),if_neg (by omega),if_neg (by omega)]
   ·rw [r1_Kind.j1,if_neg (by decide),if_neg (by omega)]
theorem zHo (a b : Nat) (ha : a < 18446744073709551616) (hb : b < 18446744073709551616) : Go.bits .xor .u64 (a : Int) (b : Int) = ((a ^^^ b : Nat) : Int) := by
 have hlt : a ^^^ b < 2 ^ 64 := Nat.xor_lt_two_pow ha hb;unfold Go.bits;rw [show IntKind.u64.bits = 64 from rfl];simp only [BitVec.toNat_xor];(have e2 : (BitVec.ofInt 64 (a : Int)).toNat = a := by rw [BitVec.ofInt_natCast,BitVec.toNat_ofNat,Nat.mod_eq_of_lt ha]);(have e3 : (BitVec.ofInt 64 (b : Int)).toNat = b := by rw [BitVec.ofInt_natCast,BitVec.toNat_ofNat,Nat.mod_eq_of_lt hb]);rw [e2,e3];exact u64_in _ hlt
theorem zFg (w : Nat) (h : w < 9223372036854775808) : Go.bits .or .u64 (w : Int) 9223372036854775808 = ((w + 9223372036854775808 : Nat) : Int) := by
 have h1 := zYl w 9223372036854775808 (by omega) (by decide);have h2 := Nat.two_pow_add_eq_or_of_lt (i := 63) (b := w) h 1;rw [Nat.mul_one] at h2;rw [Nat.or_comm,show (9223372036854775808 : Nat) = 2 ^ 63 from rfl,← h2,Nat.add_comm] at h1;exact h1
theorem zGF (w : Nat) (h : w < 9223372036854775808) : Go.bits .xor .u64 (w : Int) 9223372036854775808 = ((w + 9223372036854775808 : Nat) : Int) := by
 have h1 := zHo w 9223372036854775808 (by omega) (by decide);have h2 := Nat.two_pow_add_eq_or_of_lt (i := 63) (b := w) h 1;rw [Nat.mul_one] at h2
 have h3 : w ^^^ 2 ^ 63 = 2 ^ 63 ||| w := by
  apply Nat.eq_of_testBit_eq;intro i;rw [Nat.testBit_xor,Nat.testBit_or,Nat.testBit_two_pow];by_cases c : 63 = i
  ·subst c;rw [Nat.testBit_lt_two_pow h]
   rfl
  ·rw [decide_eq_false c,Bool.xor_false,Bool.false_or]
 rw [show (9223372036854775808 : Nat) = 2 ^ 63 from rfl,h3,← h2,Nat.add_comm] at h1;exact h1
end Go.Proofs.YtongfmeediokmaaGreatDoor.Pure
end
section
namespace Go.Proofs.YtongfmeediokmaaGreatDoor.Pure
open Go.RowKit Go.Proofs.YtongfmeediokmaaGreatDoor.Pr Go.Proofs.YtongfmeediokmaaGreatDoor.Pv Go.Proofs.YtongfmeediokmaaGreatDoorW.PrintWords Go.Proofs.YtongfmeediokmaaGreatDoorW.PrintLast Go.Proofs.YtongfmeediokmaaGreatDoorW.PrintMore Go.Proofs.YtongfmeediokmaaGreatDoor.Flo
def zZs (a : Nat) : Nat := if nanB a = true then 9221120237041090560 else a
theorem zZr (a : Nat) (h : a < 18446744073709551616) : flo_canon.f (a : Int) = some ((zZs a : Nat) : Int) := by
 unfold flo_canon.f zZs;rw [if_pos (by omega),Int.toNat_natCast];split <;> rfl
theorem zKL {a : Nat} (h : rung a ≤ INF) : zZs a = a := by
 unfold zZs nanB;unfold INF at h;rw [if_neg (by rw [decide_eq_true_iff];omega)]
theorem zBz (n : Nat) : kindV n = 4 ↔ nanB n = true := by
 unfold kindV;split
 ·simp [*]
 ·rename_i h
  constructor
  ·intro g;split at g
   ·exact absurd g (by decide)
   ·split at g
    ·exact absurd g (by decide)
    ·split at g <;> exact absurd g (by decide)
  ·intro g;exact absurd g h
theorem zJn (a : Nat) (h : a < 18446744073709551616) : Ev (fun k => r1_Canon.f k (a : Int)) ((zZs a : Nat) : Int) := by
 obtain ⟨K,g⟩ := zJi a h;refine ⟨K,fun k hk => ?_⟩;dsimp only at g ⊢;unfold zZs;rw [r1_Canon.f,g k hk,Option.bind_some];by_cases c : nanB a = true
 ·rw [if_pos ((zBz a).2 c),if_pos c]
  rfl
 ·rw [if_neg (fun e => c ((zBz a).1 e)),if_neg c]
theorem zFM (a : Nat) (h : a ≤ INF) : flo_Neg.f (a : Int) = some ((a + 9223372036854775808 : Nat) : Int) := by
 have hI : INF = 9218868437227405312 := rfl;have hr : rung a = a := Nat.mod_eq_of_lt (by omega);(have hr2 : rung (a + 9223372036854775808) = a := by unfold rung;omega);rw [flo_Neg.f,zZr a (by omega),Option.bind_some,zKL (by omega),zGF a (by omega),zZr _ (by omega),Option.bind_some,zKL (by omega)]
theorem zKJ (s : ByteArray) : strings_CutPrefix.f s (⟨#[45]⟩ : ByteArray) = some (if 0 < s.size ∧ bt s ((0 : Nat) : Int) = 45 then (suf s 1,true) else (s,false)) := by
 have hp : stringslite_HasPrefix.f s (⟨#[45]⟩ : ByteArray) = some (decide (0 < s.size ∧ bt s ((0 : Nat) : Int) = 45)) := by
  unfold stringslite_HasPrefix.f;rw [show (((⟨#[45]⟩ : ByteArray).size : Nat) : Int) = 1 from rfl];by_cases h : 0 < s.size
  ·rw [if_pos (by omega),if_pos (by omega),if_pos (by omega),zXZ,zXZ,show ((1 : Int)).toNat = 1 from rfl,zQU,List.drop_zero]
   obtain ⟨b,l,hb⟩ : ∃ b l,bytes s = b :: l := by
    cases hd : bytes s with
    | nil => have := congrArg List.length hd;rw [zQE,List.length_nil] at this;omega
    | cons b l => exact ⟨b,l,rfl⟩
   have hbt : bt s ((0 : Nat) : Int) = (b.toNat : Int) := by
    rw [zZt,hb]
    rfl
   rw [hb,hbt]
   show some (([b] : List UInt8) == [45]) = _
   congr 1
   by_cases e : b = 45
   ·subst e;simp [h]
   ·rw [decide_eq_false (by
     rintro ⟨_,c⟩
     exact e (UInt8.toNat_inj.1 (by show b.toNat = 45;omega)))]
    exact beq_eq_false_iff_ne.2 (fun c => e (by injection c))
  ·rw [if_neg (show ¬ (s.size : Int) ≥ 1 by omega),decide_eq_false (fun c => h c.1)]
 rw [strings_CutPrefix.f,stringslite_CutPrefix.f,hp,Option.bind_some];by_cases c : 0 < s.size ∧ bt s ((0 : Nat) : Int) = 45
 ·have c1 := c.1;have hone : (((⟨#[45]⟩ : ByteArray).size : Nat) : Int) = 1 := rfl;rw [if_pos (decide_eq_true c),if_pos c,hone,if_pos (show (0 : Int) ≤ 1 by decide),if_pos (show (1 : Int) ≤ (s.size : Int) by omega),Option.bind_some]
  rfl
 ·rw [if_neg (by rw [decide_eq_true_iff];exact c),if_neg c,Option.bind_some]
def zXW (m : Bool) (a : Nat) (e : Int) : Int × Bool := if e = 0 then (if m = true then ((a + 9223372036854775808 : Nat) : Int) else (a : Int),true) else (0,false)
theorem zWF (s t : ByteArray) (m : Bool) (a : Nat) (e n o : Int) (hc : strings_CutPrefix.f s (⟨#[45]⟩ : ByteArray) = some (t,m)) (ha : a ≤ INF) (h : Ev (fun k => dec_Parse.f k t) ((a : Int),e)) : Ev (fun k => value_ToNum.f k 4 n s o) (zXW m a e) := by
 obtain ⟨K,g⟩ := h;refine ⟨K,fun k hk => ?_⟩;dsimp only at g ⊢;rw [value_ToNum.f,if_neg (by decide),if_pos rfl,hc,Option.bind_some];dsimp only;rw [g k hk,Option.bind_some];dsimp only;unfold zXW;by_cases c : e = 0
 ·rw [if_pos c,if_pos c]
  cases m with
  | true => rw [if_pos rfl,if_pos rfl,zFM a ha,Option.bind_some]
  | false => rw [if_neg (by decide),if_neg (by decide)]
 ·rw [if_neg c,if_neg c]
theorem zGP (s t : ByteArray) (m : Bool) (a : Nat) (e n o : Int) (hc : (if 0 < s.size ∧ bt s ((0 : Nat) : Int) = 45 then (suf s 1,true) else (s,false)) = (t,m)) (ha : a ≤ INF) (h : Ev (fun k => r5_Parse.f k t) ((a : Int),e)) : Ev (fun k => r8_ToNum.f k 4 n s o) (zXW m a e) := by
 have hI : INF = 9218868437227405312 := rfl
 have hj1 : Ev (fun k => r8_ToNum.j1 k t m) (zXW m a e) := by
  obtain ⟨K,g⟩ := h;refine ⟨K + 1,fun k hk => ?_⟩;obtain ⟨k',rfl⟩ : ∃ k',k = k' + 1 := ⟨k - 1,by omega⟩;dsimp only at g ⊢;rw [r8_ToNum.j1,g k' (by omega),Option.bind_some];dsimp only;unfold zXW;by_cases c : e = 0
  ·rw [if_pos c,if_pos c]
   cases m with
   | true => rw [if_pos rfl,if_pos rfl,zFg a (by omega)]
   | false => rw [if_neg (by decide),if_neg (by decide)]
  ·rw [if_neg c,if_neg c]
 by_cases hp : 0 < s.size
 ·have hstart : ∀ (k : Nat),r8_ToNum.f k 4 n s o = r8_ToNum.j0 k s ((bt s 0) == 45) := by
   intro k;rw [r8_ToNum.f,if_neg (by decide),if_pos rfl,if_pos (by omega),if_pos (by omega)]
  by_cases c : bt s ((0 : Nat) : Int) = 45
  ·rw [if_pos ⟨hp,c⟩] at hc;obtain ⟨rfl,rfl⟩ := Prod.mk.inj hc;refine Ev.congr (fun k => hstart k) (Ev.step (fun k => ?_) hj1);(have hb : ((bt s 0) == 45) = true := by rw [beq_iff_eq];exact c);rw [hb,r8_ToNum.j0,if_pos rfl,if_pos (by omega)]
   rfl
  ·rw [if_neg (fun g => c g.2)] at hc;obtain ⟨rfl,rfl⟩ := Prod.mk.inj hc;refine Ev.congr (fun k => hstart k) (Ev.step (fun k => ?_) hj1);have hb : ((bt s 0) == 45) = false := beq_eq_false_iff_ne.2 c;rw [hb,r8_ToNum.j0,if_neg (by decide)]
 ·rw [if_neg (fun g => hp g.1)] at hc;obtain ⟨rfl,rfl⟩ := Prod.mk.inj hc;refine Ev.congr (fun k => ?_) (Ev.step (g := fun k => r8_ToNum.j0 k s false) (fun k => ?_) hj1)
  ·rw [r8_ToNum.f,if_neg (by decide),if_pos rfl,if_neg (by omega)]
  ·rw [r8_ToNum.j0,if_neg (by decide)]
theorem zBU (q n : Int) (s : ByteArray) (o : Int) (hn : 0 ≤ n ∧ n < 18446744073709551616) : ∃ r : Int × Bool,Ev (fun k => value_ToNum.f k q n s o) r ∧ Ev (fun k => r8_ToNum.f k q n s o) r := by
 by_cases c3 : q = 3
 ·subst c3;obtain ⟨a,rfl⟩ : ∃ a : Nat,n = (a : Int) := ⟨n.toNat,by omega⟩;obtain ⟨K,g⟩ := zJn a (by omega);refine ⟨(((zZs a : Nat) : Int),true),⟨0,fun k _ => ?_⟩,⟨K,fun k hk => ?_⟩⟩
  ·dsimp only;rw [value_ToNum.f,if_pos rfl,flo_Canon.f,zZr a (by omega)]
   rfl
  ·dsimp only at g ⊢;rw [r8_ToNum.f,if_pos rfl,g k hk,Option.bind_some]
 ·by_cases c4 : q = 4
  ·subst c4;obtain ⟨⟨t,m⟩,htm⟩ : ∃ x,x = (if 0 < s.size ∧ bt s ((0 : Nat) : Int) = 45 then (suf s 1,true) else (s,false)) := ⟨_,rfl⟩;obtain ⟨a,e,ha,_,h1,h2⟩ := zVb t;exact ⟨zXW m a e,zWF s t m a e n o (by rw [zKJ,htm]) ha h1,zGP s t m a e n o htm.symm ha h2⟩
  ·refine ⟨(0,false),⟨0,fun k _ => ?_⟩,⟨0,fun k _ => ?_⟩⟩
   ·dsimp only;rw [value_ToNum.f,if_neg c3,if_neg c4]
   ·dsimp only;rw [r8_ToNum.f,if_neg c3,if_neg c4]
theorem zVX : w8_lives.f 300 = some true := by kernel_rfl
theorem zVo : Ev (fun k => (w8_lives.f k).bind fun t => some t) true := Ev.bind (Ev.of (k := 300) (fun k => w8_lives.mono _) zVX) (Ev.now _)
theorem zVC (a : Nat) (ha : a < 18446744073709551616) (h0 : 0 < rung a) (h1 : rung a < INF) : ∃ s,Ev (fun k => dec_Print.f k (a : Int)) s ∧ Ev (fun k => value_ToNum.f k 4 0 s 0) ((a : Int),true) := by
 have hI : INF = 9218868437227405312 := rfl;have hr : rung a = a % 9223372036854775808 := rfl;obtain ⟨R,S,D,U,p,q,m,X,hsp,hf,hnf,hg,hm,hX1,hX2,hprint⟩ := zVP a ha h0 h1;(have hpar : (a % 2 == 0) = (rung a % 2 == 0) := by rw [hr,show a % 9223372036854775808 % 2 = a % 2 by omega]);rw [hpar] at hf hnf hg;obtain ⟨hparse,hs0,hs1,hs2⟩ := zVQ hsp h0 h1 hf hnf hg;refine ⟨_,hprint,?_⟩;generalize layF (outF (m,X) ((q : Int) - p)).1 (outF (m,X) ((q : Int) - p)).2 = t at hparse hs0 hs1 hs2 ⊢;by_cases c : a / 9223372036854775808 = 1
 ·(have hp : pre a = (⟨#[45]⟩ : ByteArray) := by unfold pre;rw [if_pos c]);rw [hp]
  have hb : bt ((⟨#[45]⟩ : ByteArray) ++ t) ((0 : Nat) : Int) = 45 := by
   rw [zXu,if_pos (by decide)]
   rfl
  have hz : 0 < ((⟨#[45]⟩ : ByteArray) ++ t).size := by rw [zQR];have : (⟨#[45]⟩ : ByteArray).size = 1 := rfl;omega
  have hsuf : suf ((⟨#[45]⟩ : ByteArray) ++ t) 1 = t := by
   refine zYQ ?_
   rw [zYc,bytes_append]
   rfl
  (have hcut : strings_CutPrefix.f ((⟨#[45]⟩ : ByteArray) ++ t) (⟨#[45]⟩ : ByteArray) = some (t,true) := by rw [zKJ,if_pos ⟨hz,hb⟩,hsuf]);have h := zWF _ t true (rung a) 0 0 0 hcut (by omega) hparse
  rw [show zXW true (rung a) 0 = ((a : Int),true) by
   unfold zXW
   rw [if_pos rfl,if_pos rfl,show rung a + 9223372036854775808 = a by omega]] at h
  exact h
 ·(have hp : pre a = (⟨#[]⟩ : ByteArray) := by unfold pre;rw [if_neg c]);rw [hp,zKg];(have hcut : strings_CutPrefix.f t (⟨#[45]⟩ : ByteArray) = some (t,false) := by rw [zKJ,if_neg (fun g => hs2 g.2)]);have h := zWF _ t false (rung a) 0 0 0 hcut (by omega) hparse
  rw [show zXW false (rung a) 0 = ((a : Int),true) by
   unfold zXW
   rw [if_pos rfl,if_neg (by decide),show rung a = a by omega]] at h
  exact h
theorem zWa : dec_Print.f 100 0 = some (⟨#[48]⟩ : ByteArray) ∧ value_ToNum.f 300 4 0 (⟨#[48]⟩ : ByteArray) 0 = some (0,true) := ⟨by kernel_rfl,by kernel_rfl⟩
theorem zKn : dec_Print.f 100 9223372036854775808 = some (⟨#[45,48]⟩ : ByteArray) ∧ value_ToNum.f 300 4 0 (⟨#[45,48]⟩ : ByteArray) 0 = some (9223372036854775808,true) := ⟨by kernel_rfl,by kernel_rfl⟩
theorem zGO (a : Nat) (ha : a < 18446744073709551616) (h1 : rung a < INF) : ∃ s,Ev (fun k => dec_Print.f k (a : Int)) s ∧ Ev (fun k => value_ToNum.f k 4 0 s 0) ((a : Int),true) := by
 have hr : rung a = a % 9223372036854775808 := rfl;by_cases c0 : rung a = 0
 ·rcases (show a = 0 ∨ a = 9223372036854775808 by omega) with rfl | rfl
  ·exact ⟨_,Ev.of (k := 100) (fun k => dec_Print.mono _ _) zWa.1,Ev.of (k := 300) (fun k => value_ToNum.mono _ _ _ _ _) zWa.2⟩
  ·exact ⟨_,Ev.of (k := 100) (fun k => dec_Print.mono _ _) zKn.1,Ev.of (k := 300) (fun k => value_ToNum.mono _ _ _ _ _) zKn.2⟩
 ·exact zVC a ha (by omega) h1
theorem zJX (a : Nat) (ha : a < 18446744073709551616) : Ev (fun k => w8_ValueNumbers.j0 k (a : Int) false) true := by
 have hI : INF = 9218868437227405312 := rfl;have hr : rung a = a % 9223372036854775808 := rfl;obtain ⟨K1,g1⟩ := zJi a ha;obtain ⟨K2,g2⟩ := zVo;dsimp only at g1 g2;by_cases c1 : rung a < INF
 ·obtain ⟨s,⟨K3,g3⟩,⟨K4,g4⟩⟩ := zGO a ha c1;dsimp only at g3 g4
  have hk : ¬ kindV a ≥ 3 := by
   unfold kindV nanB infB;rw [if_neg (by rw [decide_eq_true_iff];omega)];split
   ·decide
   ·rw [if_neg (by rw [decide_eq_true_iff];omega)];split <;> decide
  have hnum : value_Num.f (a : Int) = some (3,(a : Int),(⟨#[]⟩ : ByteArray),0) := by
   rw [value_Num.f,flo_Canon.f,zZr a ha,Option.bind_some,zKL (by omega)]
   rfl
  refine ⟨K1 + K2 + K3 + K4 + 1,fun k hk2 => ?_⟩;obtain ⟨k',rfl⟩ : ∃ k',k = k' + 1 := ⟨k - 1,by omega⟩;dsimp only;rw [w8_ValueNumbers.j0,if_neg (by decide),g1 k' (by omega),Option.bind_some,if_neg hk,hnum,Option.bind_some];dsimp only;rw [value_Show.f,if_neg (by decide),if_neg (by decide),if_pos rfl,g3 k' (by omega),Option.bind_some,Option.bind_some,value_Text.f,Option.bind_some];dsimp only;rw [g4 k' (by omega),Option.bind_some];dsimp only;rw [if_pos rfl,if_pos rfl];exact g2 k' (by omega)
 ·have hk : kindV a ≥ 3 := by
   unfold kindV nanB infB;by_cases d1 : 9218868437227405312 < rung a
   ·rw [if_pos (decide_eq_true d1)];decide
   ·rw [if_neg (by rw [decide_eq_true_iff];exact d1),if_neg (by omega),if_pos (by rw [decide_eq_true_iff];omega)];decide
  refine ⟨K1 + K2 + 1,fun k hk2 => ?_⟩;obtain ⟨k',rfl⟩ : ∃ k',k = k' + 1 := ⟨k - 1,by omega⟩;dsimp only;rw [w8_ValueNumbers.j0,if_neg (by decide),g1 k' (by omega),Option.bind_some,if_pos hk];exact g2 k' (by omega)
theorem zZB (b : Int × Int × ByteArray × Int) : (!(b.1 == b.1) || (!(b.2.1 == b.2.1) || (!(b.2.2.1.toList == b.2.2.1.toList) || (!(b.2.2.2 == b.2.2.2))))) = false := by
 simp only [beq_self_eq_true,Bool.not_true,Bool.or_self]
theorem zYp (q n : Int) (s : ByteArray) (o a1 : Int) (wk0 : (Lit.int .i64 q).wf = true) (wn0 : (Lit.int .u64 n).wf = true) (wo0 : (Lit.int .i64 o).wf = true) (ms0 : s.size ≤ maxLen) (z0 : s.size ≤ 140737488351232) (w1 : (Lit.int .u64 a1).wf = true) : ∃ k,w8_ValueNumbers.f k q n s o a1 = some true := by
 have hn : 0 ≤ n ∧ n < 18446744073709551616 := by
  (have : 0 ≤ n ∧ n ≤ 18446744073709551615 := by simpa [Lit.wf,IntKind.min,IntKind.max,IntKind.signed,IntKind.bits] using wn0);omega
 have h1 : 0 ≤ a1 ∧ a1 < 18446744073709551616 := by
  (have : 0 ≤ a1 ∧ a1 ≤ 18446744073709551615 := by simpa [Lit.wf,IntKind.min,IntKind.max,IntKind.signed,IntKind.bits] using w1);omega
 obtain ⟨a,rfl⟩ : ∃ a : Nat,a1 = (a : Int) := ⟨a1.toNat,by omega⟩;obtain ⟨r,⟨K1,g1⟩,⟨K2,g2⟩⟩ := zBU q n s o hn;obtain ⟨K3,g3⟩ := zJn a (by omega);obtain ⟨K4,g4⟩ := zJX a (by omega);dsimp only at g1 g2 g3 g4;refine ⟨K1 + K2 + K3 + K4,?_⟩
 have hnum : value_Num.f (a : Int) = some (3,((zZs a : Nat) : Int),(⟨#[]⟩ : ByteArray),0) := by
  rw [value_Num.f,flo_Canon.f,zZr a (by omega)]
  rfl
 have hb : value_Bool.f r.2 = r8_Bool.f r.2 := rfl
 obtain ⟨b,hb2⟩ : ∃ b,r8_Bool.f r.2 = some b := by
  rw [r8_Bool.f];split <;> exact ⟨_,rfl⟩
 have e1 := zZB (3,((zZs a : Nat) : Int),(⟨#[]⟩ : ByteArray),0);have e2 := zZB (4,0,s,0);have e3 := zZB b;dsimp only at e1 e2;rw [w8_ValueNumbers.f,g1 _ (by omega),Option.bind_some,g2 _ (by omega),Option.bind_some,if_pos rfl,if_neg (by rw [bne_self_eq_false];decide),hnum,Option.bind_some,r8_Num.f,g3 _ (by omega),Option.bind_some,Option.bind_some];dsimp only;rw [e1,if_neg (by decide),value_Text.f,Option.bind_some,r8_Text.f,Option.bind_some];dsimp only;rw [e2,if_neg (by decide),hb,hb2,Option.bind_some,Option.bind_some,e3];exact g4 _ (by omega)
end Go.Proofs.YtongfmeediokmaaGreatDoor.Pure
end
section
namespace Go.Proofs.YtongfmeediokmaaGreatDoor.Pr
open Go.RowKit
def zJL {H : Type} (bs : List ByteArray) : DataW H := .agg (bs.map fun b => .lit (.string b.data.toList))
theorem zWQ {H : Type} {enc : TypeId × Value → H} {P : Program} {w : World} {base : Nat} {sp : Nat → Bool} {held : Bool} {fuel : Nat} {t e : TypeId} {n : Nat} {cs : List Value} {zs : List ByteArray} {p : List MemPlace}
  (ht : P.underlying t = some (.array n e)) (he : P.underlying e = some .string) (hce : P.cellsOf e = 1) (hct : P.cellsOf t = n)
  (h : DataW.trod enc P w base sp held fuel t cs = some (zJL zs,p)) : cs = zs.map fun z => Value.string z := by
 cases fuel with
 | zero => simp [DataW.trod] at h
 | succ fuel =>
  simp only [DataW.trod,ht,hce,hct,Nat.mul_one] at h;split at h
  ·rename_i hl
   obtain ⟨xs,hm,hx⟩ := Option.map_eq_some_iff.1 h
   have hxs : xs.map (·.1) = zs.map fun z => (DataW.lit (.string z.data.toList) : DataW H) := by
    have := congrArg Prod.fst hx
    simpa [zJL] using this
   have hxl : xs.length = n := by simpa using Lib.mapM_length hm
   have hzl : zs.length = n := by
    have := congrArg List.length hxs;simp at this;omega
   apply List.ext_getElem?;intro i;by_cases hi : i < n
   ·obtain ⟨b,hb,hf⟩ := Lib.mapM_at hm i i (by simp [hi]);obtain ⟨z,hc,hz,_⟩ := DataW.trod_string he hf
    have h1 : cs[i]? = some (.string z) := by
     have := congrArg (·[0]?) hc
     simpa [List.getElem?_take,List.getElem?_drop] using this
    (have h2 : (xs.map (·.1))[i]? = some (DataW.lit (.string z.data.toList) : DataW H) := by simp [hb,hz]);rw [hxs] at h2;simp only [List.getElem?_map,Option.map_eq_some_iff,DataW.lit.injEq,Lit.string.injEq] at h2;obtain ⟨z',hz',hzz⟩ := h2
    have : z' = z := by
     cases z';cases z
     congr 1
     exact Array.toList_inj.1 hzz
    subst this;simp [h1,hz']
   ·rw [List.getElem?_eq_none (by omega),List.getElem?_eq_none (by simp;omega)]
  ·cases h
def zKM (P : Program) (w : World) (name : String) (zs : List ByteArray) : Prop := w.var? P name = some (zs.map fun z => Value.string z).toArray
theorem zKi {P : Program} {W : World} {name : String} {zs : List ByteArray} {rest : List (String × DataW Unit)} {g : Nat} {t e : TypeId} {n : Nat}
  (hg : P.globalNamed name = some g) (hty : (P.globals[g]?).map (·.type) = some t) (ht : P.underlying t = some (.array n e)) (he : P.underlying e = some .string) (hce : P.cellsOf e = 1) (hct : P.cellsOf t = n)
  (h : laidMet P ((name,zJL zs) :: rest) W) : zKM P W name zs := by
 obtain ⟨ps,⟨g',t',cs,fuel,p,q,hg',ht',hvar,hd,_,_⟩,_⟩ := h;obtain rfl := Option.some.inj (hg.symm.trans hg');obtain rfl := Option.some.inj (hty.symm.trans ht');unfold zKM;rw [hvar,← zWQ ht he hce hct hd]
theorem zKM.cell {P : Program} {W : World} {name : String} {zs : List ByteArray} {g : Nat} (h : zKM P W name zs) (hg : P.globalNamed name = some g) (i : Nat) (hi : i < zs.length) :
  W.cell? ⟨g,i,none⟩ = some (.string (zs.getD i ⟨#[]⟩)) := by
 have := World.var?_cell hg h i
 simpa [List.getD,hi] using this
end Go.Proofs.YtongfmeediokmaaGreatDoor.Pr
end
section
namespace Go.Proofs.YtongfmeediokmaaGreatDoor.Pr
open Go.ChangeShapes Go.WideShapes Go.RowKit
set_option maxRecDepth 100000
theorem zVd {H : Type} {enc : TypeId × Value → H} {w : World} {r : Reach} {b0 : Nat} {v : Value} {d : DataW H} {ps : List MemPlace} (hval : Value.okWide Tryz.prog w r b0 25 v) (hd : DataW.Trod enc Tryz.prog w 0 (fun _ => true) true 25 v d ps) :
  ∃ (k n : Int) (s : ByteArray) (o : Int),v = .agg #[.int .i64 k,.int .u64 n,.string s,.int .i64 o] ∧
   (Lit.int .i64 k).wf = true ∧ (Lit.int .u64 n).wf = true ∧ s.size ≤ maxLen ∧ (Lit.int .i64 o).wf = true ∧
   ((∀ n ∈ d.weights Tryz.prog 25,n ≤ reachBytes) → s.size ≤ 140737488351232) := by
 obtain ⟨cs,rfl,hsz⟩ := Go.WideShapes.okWide_struct Tryz.underlying25 hval;obtain ⟨fuel,h⟩ := hd;obtain ⟨xs,n,hn,hx,hl,hlen,hf⟩ := DataW.trod_struct Tryz.underlying25 h;obtain ⟨rfl,-⟩ := Prod.mk.inj hx;obtain ⟨cs⟩ := cs;have hl4 : cs.length = 4 := hl
 obtain ⟨v0,v1,v2,v3,rfl⟩ : ∃ v0 v1 v2 v3,cs = [v0,v1,v2,v3] := by
  match cs,hl4 with
  | [a,b,c,d],_ => exact ⟨a,b,c,d,rfl⟩
 have hxl : xs.length = 4 := hlen
 obtain ⟨y0,y1,y2,y3,rfl⟩ : ∃ y0 y1 y2 y3,xs = [y0,y1,y2,y3] := by
  match xs,hxl with
  | [a,b,c,d],_ => exact ⟨a,b,c,d,rfl⟩
 have g0 : DataW.trod enc Tryz.prog w 0 (fun _ => true) true n 3 [v0] = some y0 := hf 0 _ rfl;have g1 : DataW.trod enc Tryz.prog w 0 (fun _ => true) true n 23 [v1] = some y1 := hf 1 _ rfl;have g2 : DataW.trod enc Tryz.prog w 0 (fun _ => true) true n 9 [v2] = some y2 := hf 2 _ rfl;have g3 : DataW.trod enc Tryz.prog w 0 (fun _ => true) true n 3 [v3] = some y3 := hf 3 _ rfl;obtain ⟨k,e0,_,w0⟩ := DataW.trod_int Tryz.underlying3 g0;obtain ⟨m,e1,_,w1⟩ := DataW.trod_int Tryz.underlying23 g1;obtain ⟨S,e2,z2,w2⟩ := DataW.trod_string Tryz.underlying9 g2;obtain ⟨o,e3,_,w3⟩ := DataW.trod_int Tryz.underlying3 g3
 injection e0 with e0 _
 injection e1 with e1 _
 injection e2 with e2 _
 injection e3 with e3 _
 refine ⟨k,m,S,o,?_,w0,w1,w2,w3,fun hall => ?_⟩
 ·rw [e0,e1,e2,e3]
 ·have hfs : ∀ n,n ∈ (y2.1.weights Tryz.prog 9) → n ∈ DataW.weights Tryz.prog 25 (.agg [y0.1,y1.1,y2.1,y3.1]) := by
   intro n hn;simp only [DataW.weights,Tryz.underlying25];show n ∈ DataW.weightsEach Tryz.prog [3,23,9,3] [y0.1,y1.1,y2.1,y3.1];simp only [DataW.weightsEach,List.mem_append,List.append_nil];exact .inr (.inr (.inl hn))
  have := hall S.size (hfs _ (by rw [z2];simp [DataW.weights,Array.length_toList]));exact this
end Go.Proofs.YtongfmeediokmaaGreatDoor.Pr
end
