/- Plain laws of items that grow event by event, and of a beginning of them. No program in sight. -/
import Derived.Test.YtngfimjbgopgjaaDoorItLaw
import Derived.Test.YtngfimjbgopgjaaDoorItR
namespace Go.Proofs.YtngfimjbgopgjaaDoor
set_option linter.unusedVariables false

def lastOr (q : It) : List It → It
  | [] => q
  | a :: l => lastOr a l
theorem lastOr_snoc (q a : It) (l : List It) : lastOr q (l ++ [a]) = a := by
  induction l generalizing q with
  | nil => rfl
  | cons b l ih => exact ih b
theorem lastL_or (l : List It) : lastL l = lastOr (0, 0) l := by
  rcases List.eq_nil_or_concat l with rfl | ⟨l, y, rfl⟩
  · rfl
  · rw [List.concat_eq_append, lastOr_snoc]
    simp [lastL]
theorem rises_last {q : It} {l : List It} (h : rises q l) : q.1 ≤ (lastOr q l).1 ∧ q.2 ≤ (lastOr q l).2 := by
  induction l generalizing q with
  | nil => exact ⟨by simp [lastOr], by simp [lastOr]⟩
  | cons a l ih =>
    obtain ⟨h1, h2, h3⟩ := h
    have := ih h3
    rw [lastOr]
    omega
theorem rises_snoc {q a : It} {l : List It} (h : rises q l) (h1 : (lastOr q l).1 < a.1) (h2 : (lastOr q l).2 < a.2) : rises q (l ++ [a]) := by
  induction l generalizing q with
  | nil => exact ⟨h1, h2, trivial⟩
  | cons b l ih => exact ⟨h.1, h.2.1, ih h.2.2 h1 h2⟩
theorem rises_front {q a : It} {l : List It} (h : rises q (l ++ [a])) : rises q l ∧ (lastOr q l).1 < a.1 ∧ (lastOr q l).2 < a.2 := by
  induction l generalizing q with
  | nil => exact ⟨trivial, h.1, h.2.1⟩
  | cons b l ih =>
    obtain ⟨h1, h2, h3⟩ := h
    obtain ⟨k1, k2, k3⟩ := ih h3
    exact ⟨⟨h1, h2, k1⟩, k2, k3⟩

theorem cut_law (l : List It) (q : It) (id : Int) (h : rises q l) (h1 : q.1 ≤ id) (h2 : id ≤ (lastOr q l).1) :
    (lastOr q (cutGo id q.1 l)).1 = id ∧ commonFrom q (cutGo id q.1 l) l = lastOr q (cutGo id q.1 l) ∧ (lastOr q (cutGo id q.1 l)).2 ≤ (lastOr q l).2 := by
  induction l generalizing q with
  | nil =>
    have e : id = q.1 := by simp only [lastOr] at h2; omega
    subst e
    exact ⟨rfl, rfl, by simp [lastOr, cutGo]⟩
  | cons a l ih =>
    by_cases hq : q.1 < id
    · obtain ⟨a1, a2, a3⟩ := h
      rw [lastOr] at h2
      rw [cutGo, if_pos hq]
      by_cases ha : a.1 ≤ id
      · rw [Int.min_eq_left ha, lastOr, lastOr, commonFrom, if_pos rfl, if_pos rfl, Int.min_self]
        exact ih a a3 ha h2
      · rw [Int.min_eq_right (by omega), cutGo_done (by omega), lastOr, lastOr, lastOr, commonFrom, if_pos rfl, if_neg (by show ¬ id = a.1; omega)]
        exact ⟨rfl, by rw [Int.min_eq_left (show id ≤ a.1 by omega)], (rises_last a3).2⟩
    · have e : id = q.1 := by omega
      subst e
      rw [cutGo_done hq, commonFrom_nil_left]
      exact ⟨rfl, rfl, (rises_last h).2⟩

theorem versGo_snoc (l : List It) (q a : It) (h : rises q l) (h0 : 0 ≤ q.1) :
    versGo q.1.toNat (l ++ [a]) = versGo q.1.toNat l ++ List.replicate (a.1.toNat - (lastOr q l).1.toNat) a.2 := by
  induction l generalizing q with
  | nil => simp [versGo, lastOr]
  | cons b l ih =>
    obtain ⟨h1, h2, h3⟩ := h
    rw [List.cons_append, versGo, versGo, Nat.max_eq_right (by omega), ih b h3 (by omega), lastOr, List.append_assoc]
theorem versGo_len (l : List It) (q : It) (h : rises q l) (h0 : 0 ≤ q.1) : (versGo q.1.toNat l).length = (lastOr q l).1.toNat - q.1.toNat := by
  induction l generalizing q with
  | nil => simp [versGo, lastOr]
  | cons b l ih =>
    obtain ⟨h1, h2, h3⟩ := h
    have := (rises_last h3).1
    rw [versGo, Nat.max_eq_right (by omega), List.length_append, List.length_replicate, ih b h3 (by omega), lastOr]
    omega
theorem ver_look (l : List It) (q : It) (id : Int) (h : rises q l) (h0 : 0 ≤ q.1) (h1 : q.1 < id) : verFrom id l = (versGo q.1.toNat l).getD (id - q.1 - 1).toNat 0 := by
  induction l generalizing q with
  | nil => simp [versGo, verFrom]
  | cons b l ih =>
    obtain ⟨k1, k2, k3⟩ := h
    rw [verFrom, versGo, Nat.max_eq_right (by omega), List.getD_eq_getElem?_getD]
    by_cases hb : id ≤ b.1
    · rw [if_pos hb, List.getElem?_append_left (by rw [List.length_replicate]; omega), List.getElem?_replicate, if_pos (by omega)]
      rfl
    · rw [if_neg hb, List.getElem?_append_right (by rw [List.length_replicate]; omega), List.length_replicate, ih b k3 (by omega) (by omega), List.getD_eq_getElem?_getD]
      congr 2
      omega

/-- Items that tell of the events want, one by one. -/
structure Tells (l : List It) (want : List Int) : Prop where
  up : rises (0, 0) l
  vers : versGo 0 l = want
theorem Tells.nil : Tells [] [] := ⟨trivial, rfl⟩
theorem Tells.last {l : List It} {want : List Int} (h : Tells l want) : (lastL l).1 = want.length := by
  have := versGo_len l (0, 0) h.up (by decide)
  have k := (rises_last h.up).1
  rw [lastL_or, ← h.vers]
  simp only [Int.toNat_zero] at this k
  rw [this]
  omega
theorem Tells.version {l : List It} {want : List Int} (h : Tells l want) (id : Int) (h1 : 1 ≤ id) : versionL l id = want.getD (id - 1).toNat 0 := by
  unfold versionL
  rw [if_neg (by omega), ver_look l (0, 0) id h.up (by decide) (by show (0 : Int) < id; omega), ← h.vers]
  simp
theorem Tells.grow {l : List It} {want : List Int} (h : Tells l want) (v : Int) (hv : (lastL l).2 ≤ v) (h0 : 0 < v) : Tells (grownL l (want.length + 1) v) (want ++ [v]) ∧ lastL (grownL l (want.length + 1) v) = ((want.length : Int) + 1, v) := by
  have hl := h.last
  rcases List.eq_nil_or_concat l with rfl | ⟨l, y, rfl⟩
  · have e : want = [] := h.vers.symm
    subst e
    exact ⟨⟨⟨(by decide : (0 : Int) < 0 + 1), h0, trivial⟩, rfl⟩, rfl⟩
  · rw [List.concat_eq_append] at *
    obtain ⟨k1, k2, k3⟩ := rises_front h.up
    have hw := h.vers
    have e0 := versGo_snoc l (0, 0) y k1 (by decide)
    simp only [Int.toNat_zero] at e0
    rw [e0] at hw
    rw [lastL_or, lastOr_snoc] at hl hv
    have k4 : 0 ≤ (lastOr (0, 0) l).1 := (rises_last k1).1
    rw [grownL_last]
    by_cases hy : y.2 = v
    · rw [if_pos hy]
      have e1 := versGo_snoc l (0, 0) ((want.length : Int) + 1, v) k1 (by decide)
      simp only [Int.toNat_zero] at e1
      refine ⟨⟨rises_snoc k1 (by show _ < (want.length : Int) + 1; omega) (by show _ < v; omega), ?_⟩, by rw [lastL_or, lastOr_snoc]⟩
      have hl' : y.1 = (want.length : Int) := hl
      clear hl
      generalize want.length = n at *
      rw [e1, ← hw, ← hy, List.append_assoc]
      congr 1
      rw [show [y.2] = List.replicate 1 y.2 from rfl, List.replicate_append_replicate]
      congr 1
      omega
    · rw [if_neg hy]
      have e1 := versGo_snoc (l ++ [y]) (0, 0) ((want.length : Int) + 1, v) h.up (by decide)
      simp only [Int.toNat_zero] at e1
      refine ⟨⟨rises_snoc h.up (by rw [lastOr_snoc]; show _ < (want.length : Int) + 1; omega) (by rw [lastOr_snoc]; show _ < v; omega), ?_⟩, by rw [lastL_or, lastOr_snoc]⟩
      rw [e1, lastOr_snoc, e0, hw, show ((want.length : Int) + 1).toNat - y.1.toNat = 1 by omega]
      rfl
/-- A beginning of them. -/
theorem Tells.cut {l : List It} {want : List Int} (h : Tells l want) (id : Int) (h0 : 0 ≤ id) (h1 : id ≤ want.length) :
    (lastL (cutL l id)).1 = id ∧ commonL (cutL l id) l = lastL (cutL l id) ∧ (id = want.length ∨ cmpL (cutL l id) l < 0) := by
  have hl := h.last
  rw [lastL_or] at hl
  obtain ⟨c1, c2, c3⟩ := cut_law l (0, 0) id h.up h0 (by omega)
  have c1' : (lastOr (0, 0) (cutL l id)).1 = id := c1
  have c3' : (lastOr (0, 0) (cutL l id)).2 ≤ (lastOr (0, 0) l).2 := c3
  refine ⟨by rw [lastL_or]; exact c1, by rw [lastL_or]; exact c2, ?_⟩
  by_cases hd : id = want.length
  · exact .inl hd
  · right
    unfold cmpL
    rw [lastL_or, lastL_or]
    generalize lastOr (0, 0) (cutL l id) = x at *
    generalize lastOr (0, 0) l = y at *
    unfold cmpI
    split <;> split <;> (try split) <;> omega
theorem rightFrom_of {q : It} {l : List It} (h : rises q l) (hr : ∀ a ∈ l, a.1 ≤ 200 ∧ rightB a.2 = true) : rightFrom q l = true := by
  induction l generalizing q with
  | nil => rfl
  | cons a l ih =>
    obtain ⟨h1, h2, h3⟩ := h
    obtain ⟨r1, r2⟩ := hr a (by simp)
    rw [rightFrom, ih h3 (fun b hb => hr b (by simp [hb])), okI, r2]
    simp [h1, h2, r1]
theorem grownL_all {P : It → Prop} {l : List It} {id v : Int} (h : ∀ a ∈ l, P a) (h1 : P (id, v)) : ∀ a ∈ grownL l id v, P a := by
  rcases List.eq_nil_or_concat l with rfl | ⟨l, y, rfl⟩
  · intro a ha
    rw [grownL_nil] at ha
    simp only [List.mem_singleton] at ha
    subst ha
    exact h1
  · rw [List.concat_eq_append] at *
    rw [grownL_last]
    intro a ha
    split at ha
    · rcases List.mem_append.1 ha with ha | ha
      · exact h a (by simp [ha])
      · simp only [List.mem_singleton] at ha; subst ha; exact h1
    · rcases List.mem_append.1 ha with ha | ha
      · exact h a ha
      · simp only [List.mem_singleton] at ha; subst ha; exact h1
end Go.Proofs.YtngfimjbgopgjaaDoor
