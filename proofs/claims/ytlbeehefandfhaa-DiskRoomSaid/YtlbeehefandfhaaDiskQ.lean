/- The disk as lists and numbers: its files stay in order, and have room. -/
import Derived.Test.YtlbeehefandfhaaDiskP
namespace Go.Proofs.Ytlbeehefandfhaa.Pr
set_option linter.unusedVariables false
set_option linter.unusedSimpArgs false
theorem total_at (A C : List PF) (f : PF) : total (A ++ f :: C) = total A + f.bs.length + total C := by
  rw [total_append]
  simp only [total]
  omega
theorem updP_at (n : List UInt8) (g : PF → PF) (f : PF) (C : List PF) (hf : f.name = n) : ∀ A : List PF, (∀ x ∈ A, x.name ≠ n) → updP n g (A ++ f :: C) = A ++ g f :: C
  | [], _ => by simp [updP, hf]
  | a :: r, h => by
    have ha : (a.name == n) = false := by
      rw [beq_eq_false_iff_ne]
      exact h a (by simp)
    rw [List.cons_append, updP, ha]
    simp only [Bool.false_eq_true, if_false]
    rw [updP_at n g f C hf r (fun x hx => h x (List.mem_cons_of_mem _ hx))]
    rfl
theorem WF.at {s : PD} (h : WF s) {A C : List PF} {f f' : PF} (hF : s.F = A ++ f :: C) (hn : f'.name = f.name) (hfast : f'.fast ≤ f'.bs.length) (hroom : total s.F - f.bs.length + f'.bs.length ≤ s.size) : WF { s with F := A ++ f' :: C } := by
  have hs := h.sorted
  have hfa := h.fast
  have hna := h.names
  rw [hF] at hs hfa hna
  refine ⟨h.size0, h.size1, ?_, fun x hx => ?_, h.calls0, h.calls1, fun x hx => ?_, ?_⟩
  · rw [hF, total_at] at hroom
    show total (A ++ f' :: C) ≤ s.size
    rw [total_at]
    omega
  · rcases List.mem_append.1 hx with hx | hx
    · exact hfa x (by simp [hx])
    · rcases List.mem_cons.1 hx with rfl | hx
      · exact hfast
      · exact hfa x (by simp [hx])
  · rcases List.mem_append.1 hx with hx | hx
    · exact hna x (by simp [hx])
    · rcases List.mem_cons.1 hx with rfl | hx
      · rw [hn]; exact hna f (by simp)
      · exact hna x (by simp [hx])
  · show (A ++ f' :: C).Pairwise _
    obtain ⟨p1, p2, p3⟩ := List.pairwise_append.1 hs
    obtain ⟨p4, p5⟩ := List.pairwise_cons.1 p2
    refine List.pairwise_append.2 ⟨p1, List.pairwise_cons.2 ⟨fun x hx => by rw [hn]; exact p4 x hx, p5⟩, fun a ha b hb => ?_⟩
    rcases List.mem_cons.1 hb with rfl | hb
    · rw [hn]; exact p3 a ha f (by simp)
    · exact p3 a ha b (List.mem_cons_of_mem _ hb)
theorem bytesBefore_irrefl : ∀ a : List UInt8, bytesBefore a a = false
  | [] => rfl
  | x :: r => by
    have hx : ¬ x < x := UInt8.lt_irrefl x
    simp [bytesBefore, hx, bytesBefore_irrefl r]
theorem bytesBefore_trans : ∀ a b c : List UInt8, bytesBefore a b = true → bytesBefore b c = true → bytesBefore a c = true
  | _, [], [], _, h => by simp [bytesBefore] at h
  | [], [], _ :: _, h, _ => by simp [bytesBefore] at h
  | _ :: _, [], _ :: _, h, _ => by simp [bytesBefore] at h
  | _, _ :: _, [], _, h => by simp [bytesBefore] at h
  | [], _ :: _, _ :: _, _, _ => rfl
  | x :: a, y :: b, z :: c, h, k => by
    simp only [bytesBefore, Bool.or_eq_true, Bool.and_eq_true, decide_eq_true_eq, beq_iff_eq] at h k ⊢
    rcases h with h | ⟨rfl, h⟩
    · rcases k with k | ⟨rfl, k⟩
      · exact .inl (UInt8.lt_trans h k)
      · exact .inl h
    · rcases k with k | ⟨rfl, k⟩
      · exact .inl k
      · exact .inr ⟨rfl, bytesBefore_trans a b c h k⟩
theorem bytesBefore_total : ∀ a b : List UInt8, a ≠ b → bytesBefore a b = false → bytesBefore b a = true
  | [], [], h, _ => absurd rfl h
  | [], _ :: _, _, h => by simp [bytesBefore] at h
  | _ :: _, [], _, _ => rfl
  | x :: a, y :: b, hne, h => by
    simp only [bytesBefore, Bool.or_eq_false_iff, Bool.and_eq_false_iff, decide_eq_false_iff_not, beq_eq_false_iff_ne] at h
    simp only [bytesBefore, Bool.or_eq_true, Bool.and_eq_true, decide_eq_true_eq, beq_iff_eq]
    obtain ⟨h1, h2⟩ := h
    by_cases hxy : x = y
    · subst hxy
      refine .inr ⟨rfl, bytesBefore_total a b (fun e => hne (by rw [e])) ?_⟩
      rcases h2 with h2 | h2
      · exact absurd rfl h2
      · exact h2
    · left
      rw [UInt8.lt_iff_toNat_lt] at h1 ⊢
      have : x.toNat ≠ y.toNat := fun e => hxy (UInt8.toNat_inj.1 e)
      omega
theorem insP_perm (f : PF) : ∀ L, (insP f L).Perm (f :: L)
  | [] => List.Perm.refl _
  | g :: r => by
    unfold insP
    split
    · exact List.Perm.refl _
    · exact ((insP_perm f r).cons g).trans (List.Perm.swap f g r)
theorem total_perm {L M : List PF} (h : L.Perm M) : total L = total M := by
  induction h with
  | nil => rfl
  | cons x _ ih => simp only [total, ih]
  | swap x y l => simp only [total]; omega
  | trans _ _ h1 h2 => exact h1.trans h2
theorem insP_sorted (f : PF) : ∀ L : List PF, L.Pairwise (fun f g => bytesBefore f.name g.name = true) → (∀ g ∈ L, g.name ≠ f.name) → (insP f L).Pairwise fun f g => bytesBefore f.name g.name = true
  | [], _, _ => by simp [insP]
  | g :: r, h, hn => by
    obtain ⟨h1, h2⟩ := List.pairwise_cons.1 h
    unfold insP
    split
    · rename_i hb
      refine List.pairwise_cons.2 ⟨fun x hx => ?_, h⟩
      rcases List.mem_cons.1 hx with rfl | hx
      · exact hb
      · exact bytesBefore_trans _ _ _ hb (h1 x hx)
    · rename_i hb
      refine List.pairwise_cons.2 ⟨fun x hx => ?_, insP_sorted f r h2 (fun x hx => hn x (List.mem_cons_of_mem _ hx))⟩
      rcases List.mem_cons.1 ((insP_perm f r).mem_iff.1 hx) with rfl | hx
      · exact bytesBefore_total _ _ (hn g (by simp)).symm (by simpa using hb)
      · exact h1 x hx
theorem WF.ins {s : PD} (h : WF s) (f : PF) (hn : ∀ g ∈ s.F, g.name ≠ f.name) (hok : nameOk f.name = true) (hfast : f.fast ≤ f.bs.length) (hroom : total s.F + f.bs.length ≤ s.size) : WF { s with F := insP f s.F } := by
  have hp := insP_perm f s.F
  refine ⟨h.size0, h.size1, ?_, fun x hx => ?_, h.calls0, h.calls1, fun x hx => ?_, insP_sorted f s.F h.sorted hn⟩
  · show total (insP f s.F) ≤ s.size
    rw [total_perm hp]
    simp only [total]
    omega
  · rcases List.mem_cons.1 (hp.mem_iff.1 hx) with rfl | hx
    · exact hfast
    · exact h.fast x hx
  · rcases List.mem_cons.1 (hp.mem_iff.1 hx) with rfl | hx
    · exact hok
    · exact h.names x hx
theorem total_del (n : List UInt8) : ∀ L : List PF, total (delP n L) ≤ total L
  | [] => Int.le_refl _
  | f :: r => by
    have := total_del n r
    unfold delP at this ⊢
    rw [List.filter_cons]
    split
    · simp only [total]; omega
    · simp only [total]; omega
theorem WF.del {s : PD} (h : WF s) (n : List UInt8) : WF { s with F := delP n s.F } :=
  ⟨h.size0, h.size1, Int.le_trans (total_del n s.F) h.room, fun x hx => h.fast x (List.mem_filter.1 hx).1, h.calls0, h.calls1, fun x hx => h.names x (List.mem_filter.1 hx).1, h.sorted.sublist List.filter_sublist⟩
theorem delP_at (n : List UInt8) (A C : List PF) (f : PF) (hs : (A ++ f :: C).Pairwise fun f g => bytesBefore f.name g.name = true) (hf : f.name = n) : delP n (A ++ f :: C) = A ++ C := by
  obtain ⟨p1, p2, p3⟩ := List.pairwise_append.1 hs
  obtain ⟨p4, p5⟩ := List.pairwise_cons.1 p2
  have ne : ∀ a b : PF, bytesBefore a.name b.name = true → a.name ≠ b.name := fun a b h e => by rw [e, bytesBefore_irrefl] at h; cases h
  unfold delP
  rw [List.filter_append, List.filter_cons_of_neg (by simp [hf])]
  rw [List.filter_eq_self.2 fun a ha => by have := ne a f (p3 a ha f (by simp)); simp [← hf, this]]
  rw [List.filter_eq_self.2 fun a ha => by have := ne f a (p4 a ha); simp [← hf]; exact fun e => this e.symm]
theorem total_del_at (n : List UInt8) (A C : List PF) (f : PF) (hs : (A ++ f :: C).Pairwise fun f g => bytesBefore f.name g.name = true) (hf : f.name = n) : total (delP n (A ++ f :: C)) = total (A ++ f :: C) - f.bs.length := by
  rw [delP_at n A C f hs hf, total_at, total_append]
  omega
end Go.Proofs.Ytlbeehefandfhaa.Pr
