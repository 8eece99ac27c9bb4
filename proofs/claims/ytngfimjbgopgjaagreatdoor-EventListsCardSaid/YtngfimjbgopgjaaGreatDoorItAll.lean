/- ItDef, ItLaw, ItR, ItGrow, ItV, ItLay, Ev, ItRead, in one text (merge.py). -/
import Derived.Test.YtngfimjbgopgjaaGreatDoorIt
import Derived.Test.YtngfimjbgopgjaaGreatDoorVer
import Derived.Test.YtngfimjbgopgjaaGreatDoorRdKnown
/- What two lists of items have in common; an item in a box. -/
namespace Go.Proofs.YtngfimjbgopgjaaGreatDoor
open Go.RowKit
set_option linter.unusedVariables false

/-- The last event up to which both have the same versions, behind one that they have in common. -/
def commonFrom (out : It) : List It → List It → It
  | a :: l, b :: m => if a.2 = b.2 then (if a.1 = b.1 then commonFrom (min a.1 b.1, a.2) l m else (min a.1 b.1, a.2)) else out
  | _, _ => out
def commonL (l m : List It) : It := commonFrom (0, 0) l m
theorem commonFrom_nil_left (out : It) (m : List It) : commonFrom out [] m = out := by cases m <;> rfl
theorem commonFrom_nil_right (out : It) (l : List It) : commonFrom out l [] = out := by cases l <;> rfl

end Go.Proofs.YtngfimjbgopgjaaGreatDoor

/- Plain laws of items: what two rising lists have in common, said in two ways. No program in sight. -/
namespace Go.Proofs.YtngfimjbgopgjaaGreatDoor
set_option linter.unusedVariables false

/-- IDs and versions rise, behind an item. -/
def rises (q : It) : List It → Prop
  | [] => True
  | a :: l => q.1 < a.1 ∧ q.2 < a.2 ∧ rises a l
/-- The version of an event, 0 where there is none. -/
def verFrom (id : Int) : List It → Int
  | [] => 0
  | a :: l => if id ≤ a.1 then a.2 else verFrom id l
def versionL (l : List It) (id : Int) : Int := if id < 1 then 0 else verFrom id l
def hasL (l : List It) (i : It) : Bool := if i.1 = 0 then decide (i.2 = 0) else (!decide (versionL l i.1 = 0) && decide (versionL l i.1 = i.2))
def cutGo (id last : Int) : List It → List It
  | [] => []
  | a :: l => if last < id then (min a.1 id, a.2) :: cutGo id (min a.1 id) l else cutGo id last l
def cutL (l : List It) (id : Int) : List It := cutGo id 0 l
theorem cutGo_done {id last : Int} (h : ¬ last < id) (l : List It) : cutGo id last l = [] := by
  induction l with
  | nil => rfl
  | cons a l ih => rw [cutGo, if_neg h, ih]
theorem verFrom_rises {q : It} {l : List It} (h : rises q l) (id : Int) : verFrom id l = 0 ∨ q.2 < verFrom id l := by
  induction l generalizing q with
  | nil => exact .inl rfl
  | cons a l ih =>
    obtain ⟨h1, h2, h3⟩ := h
    rw [verFrom]
    split
    · exact .inr h2
    · rcases ih h3 with e | e
      · exact .inl e
      · exact .inr (by omega)

theorem common_law (l m : List It) (out : It) (hl : rises out l) (hm : rises out m) (h1 : 0 ≤ out.1) (h2 : 0 ≤ out.2) :
    (commonFrom out l m = out ∨ out.1 < (commonFrom out l m).1 ∧ (commonFrom out l m).2 ≠ 0 ∧ verFrom (commonFrom out l m).1 l = (commonFrom out l m).2 ∧ verFrom (commonFrom out l m).1 m = (commonFrom out l m).2) ∧
    out.1 ≤ (commonFrom out l m).1 ∧ cutGo (commonFrom out l m).1 out.1 l = cutGo (commonFrom out l m).1 out.1 m ∧
    (verFrom ((commonFrom out l m).1 + 1) l = 0 ∨ verFrom ((commonFrom out l m).1 + 1) m = 0 ∨ verFrom ((commonFrom out l m).1 + 1) l ≠ verFrom ((commonFrom out l m).1 + 1) m) := by
  induction l generalizing out m with
  | nil => rw [commonFrom_nil_left]; exact ⟨.inl rfl, by omega, by rw [cutGo_done (by omega), cutGo_done (by omega)], .inl rfl⟩
  | cons a l ih =>
    rcases m with _ | ⟨b, m⟩
    · rw [commonFrom_nil_right]; exact ⟨.inl rfl, by omega, by rw [cutGo_done (by omega), cutGo_done (by omega)], .inr (.inl rfl)⟩
    · obtain ⟨a1, a2, a3⟩ := hl
      obtain ⟨b1, b2, b3⟩ := hm
      by_cases hv : a.2 = b.2
      · by_cases hi : a.1 = b.1
        · have hab : a = b := Prod.ext hi hv
          subst hab
          have hc : commonFrom out (a :: l) (a :: m) = commonFrom a l m := by rw [commonFrom, if_pos rfl, if_pos rfl, Int.min_self]
          rw [hc]
          obtain ⟨q1, q2, q3, q4⟩ := ih m a a3 b3 (by omega) (by omega)
          generalize commonFrom a l m = c at *
          refine ⟨.inr ⟨by omega, ?_, ?_, ?_⟩, by omega, ?_, ?_⟩
          · rcases q1 with rfl | ⟨_, q, _⟩
            · omega
            · exact q
          · rcases q1 with rfl | ⟨q5, _, q6, _⟩
            · rw [verFrom, if_pos (by omega)]
            · rw [verFrom, if_neg (by omega), q6]
          · rcases q1 with rfl | ⟨q5, _, _, q6⟩
            · rw [verFrom, if_pos (by omega)]
            · rw [verFrom, if_neg (by omega), q6]
          · rw [cutGo, cutGo, if_pos (by omega), if_pos (by omega), Int.min_eq_left q2, q3]
          · rw [verFrom, verFrom, if_neg (by omega), if_neg (by omega)]
            exact q4
        · have hc : commonFrom out (a :: l) (b :: m) = (min a.1 b.1, a.2) := by rw [commonFrom, if_pos hv, if_neg hi]
          rw [hc]
          have m1 : min a.1 b.1 ≤ a.1 := Int.min_le_left _ _
          have m2 : min a.1 b.1 ≤ b.1 := Int.min_le_right _ _
          have m3 : min a.1 b.1 = a.1 ∨ min a.1 b.1 = b.1 := by omega
          refine ⟨.inr ⟨by show out.1 < min a.1 b.1; omega, by show a.2 ≠ 0; omega, by rw [verFrom, if_pos m1], by rw [verFrom, if_pos m2]; exact hv.symm⟩, by show out.1 ≤ min a.1 b.1; omega, ?_, ?_⟩
          · show cutGo (min a.1 b.1) out.1 (a :: l) = cutGo (min a.1 b.1) out.1 (b :: m)
            rw [cutGo, cutGo, if_pos (by omega), if_pos (by omega), Int.min_eq_right m1, Int.min_eq_right m2, cutGo_done (by omega), cutGo_done (by omega), hv]
          · show verFrom (min a.1 b.1 + 1) (a :: l) = 0 ∨ verFrom (min a.1 b.1 + 1) (b :: m) = 0 ∨ verFrom (min a.1 b.1 + 1) (a :: l) ≠ verFrom (min a.1 b.1 + 1) (b :: m)
            rcases Int.lt_or_gt_of_ne hi with h | h
            · rw [Int.min_eq_left (by omega), verFrom, if_neg (by omega), verFrom, if_pos (by omega)]
              rcases verFrom_rises a3 (a.1 + 1) with e | e
              · exact .inl e
              · exact .inr (.inr (by omega))
            · rw [Int.min_eq_right (by omega), verFrom, if_pos (by omega), verFrom, if_neg (by omega)]
              rcases verFrom_rises b3 (b.1 + 1) with e | e
              · exact .inr (.inl e)
              · exact .inr (.inr (by omega))
      · have hc : commonFrom out (a :: l) (b :: m) = out := by rw [commonFrom, if_neg hv]
        rw [hc]
        exact ⟨.inl rfl, by omega, by rw [cutGo_done (by omega), cutGo_done (by omega)], .inr (.inr (by rw [verFrom, verFrom, if_pos (by omega), if_pos (by omega)]; exact hv))⟩

theorem common_has (x y : List It) (hx : rises (0, 0) x) (hy : rises (0, 0) y) :
    hasL x (commonL x y) = true ∧ hasL y (commonL x y) = true ∧ cutL x (commonL x y).1 = cutL y (commonL x y).1 ∧
    (versionL x ((commonL x y).1 + 1) = 0 ∨ versionL y ((commonL x y).1 + 1) = 0 ∨ versionL x ((commonL x y).1 + 1) ≠ versionL y ((commonL x y).1 + 1)) := by
  obtain ⟨q1, q2, q3, q4⟩ := common_law x y (0, 0) hx hy (by omega) (by omega)
  unfold commonL
  generalize commonFrom (0, 0) x y = c at *
  have q2' : 0 ≤ c.1 := q2
  refine ⟨?_, ?_, q3, ?_⟩
  · rcases q1 with rfl | ⟨q5, q6, q7, q8⟩
    · rfl
    · have q5' : 0 < c.1 := q5
      have e : versionL x c.1 = c.2 := by unfold versionL; rw [if_neg (by omega), q7]
      simp [hasL, show ¬ c.1 = 0 by omega, e, q6]
  · rcases q1 with rfl | ⟨q5, q6, q7, q8⟩
    · rfl
    · have q5' : 0 < c.1 := q5
      have e : versionL y c.1 = c.2 := by unfold versionL; rw [if_neg (by omega), q8]
      simp [hasL, show ¬ c.1 = 0 by omega, e, q6]
  · simp only [versionL]
    rw [if_neg (by omega), if_neg (by omega)]
    exact q4

/-! ### Event by event. -/
def versGo (n : Nat) : List It → List Int
  | [] => []
  | a :: l => List.replicate (a.1.toNat - n) a.2 ++ versGo (max n a.1.toNat) l
def refGo (i : Nat) (out : It) : List Int → List Int → It
  | u :: x, v :: y => if u = v then refGo (i + 1) ((i : Int) + 1, u) x y else out
  | _, _ => out
theorem refGo_nil_left (i : Nat) (out : It) (m : List Int) : refGo i out [] m = out := by cases m <;> rfl
theorem refGo_nil_right (i : Nat) (out : It) (l : List Int) : refGo i out l [] = out := by cases l <;> rfl
theorem refGo_rep (k i : Nat) (out : It) (u : Int) (X Y : List Int) :
    refGo i out (List.replicate (k + 1) u ++ X) (List.replicate (k + 1) u ++ Y) = refGo (i + k + 1) ((i : Int) + k + 1, u) X Y := by
  induction k generalizing i out with
  | zero => simp [refGo]
  | succ k ih =>
    rw [List.replicate_succ, List.cons_append, List.cons_append, refGo, if_pos rfl, ih]
    rw [show i + 1 + k + 1 = i + (k + 1) + 1 by omega]
    congr 2
    omega
theorem versGo_head {q : It} {l : List It} (h : rises q l) (h0 : 0 ≤ q.1) : versGo q.1.toNat l = [] ∨ ∃ u x, versGo q.1.toNat l = u :: x ∧ q.2 < u := by
  rcases l with _ | ⟨a, l⟩
  · exact .inl rfl
  · obtain ⟨h1, h2, h3⟩ := h
    right
    rw [versGo]
    obtain ⟨k, hk⟩ : ∃ k, a.1.toNat - q.1.toNat = k + 1 := ⟨a.1.toNat - q.1.toNat - 1, by omega⟩
    rw [hk, List.replicate_succ]
    exact ⟨_, _, rfl, h2⟩
theorem refGo_law (l m : List It) (out : It) (hl : rises out l) (hm : rises out m) (h1 : 0 ≤ out.1) :
    refGo out.1.toNat out (versGo out.1.toNat l) (versGo out.1.toNat m) = commonFrom out l m := by
  induction l generalizing out m with
  | nil => rw [commonFrom_nil_left, versGo, refGo_nil_left]
  | cons a l ih =>
    rcases m with _ | ⟨b, m⟩
    · rw [commonFrom_nil_right, versGo, refGo_nil_right]
    · obtain ⟨a1, a2, a3⟩ := hl
      obtain ⟨b1, b2, b3⟩ := hm
      obtain ⟨p, hp⟩ : ∃ p, a.1.toNat - out.1.toNat = p + 1 := ⟨a.1.toNat - out.1.toNat - 1, by omega⟩
      obtain ⟨q, hq⟩ : ∃ q, b.1.toNat - out.1.toNat = q + 1 := ⟨b.1.toNat - out.1.toNat - 1, by omega⟩
      rw [versGo, versGo, hp, hq, Nat.max_eq_right (by omega), Nat.max_eq_right (by omega)]
      by_cases hv : a.2 = b.2
      · rw [← hv]
        by_cases hi : a.1 = b.1
        · have hab : a = b := Prod.ext hi hv
          subst hab
          have hpq : p = q := by omega
          subst hpq
          rw [refGo_rep, commonFrom, if_pos rfl, if_pos rfl, Int.min_self]
          have := ih m a a3 b3 (by omega)
          rw [← this]
          congr 1
          · omega
          · exact Prod.ext (by show (out.1.toNat : Int) + p + 1 = a.1; omega) rfl
        · rw [commonFrom, if_pos hv, if_neg hi]
          rcases Int.lt_or_gt_of_ne hi with h | h
          · obtain ⟨r, hr⟩ : ∃ r, q + 1 = (p + 1) + (r + 1) := ⟨q - p - 1, by omega⟩
            rw [hr, ← List.replicate_append_replicate (n := p + 1) (m := r + 1), List.append_assoc, refGo_rep, Int.min_eq_left (by omega)]
            have e : ((out.1.toNat : Int) + p + 1, a.2) = (a.1, a.2) := Prod.ext (by show (out.1.toNat : Int) + p + 1 = a.1; omega) rfl
            rw [e]
            rcases versGo_head a3 (by omega) with hn | ⟨u, x, hu, hlt⟩
            · rw [hn, refGo_nil_left]
            · rw [hu, List.replicate_succ, List.cons_append, refGo, if_neg (by omega)]
          · obtain ⟨r, hr⟩ : ∃ r, p + 1 = (q + 1) + (r + 1) := ⟨p - q - 1, by omega⟩
            rw [hr, ← List.replicate_append_replicate (n := q + 1) (m := r + 1), List.append_assoc, refGo_rep, Int.min_eq_right (by omega)]
            have e : ((out.1.toNat : Int) + q + 1, a.2) = (b.1, a.2) := Prod.ext (by show (out.1.toNat : Int) + q + 1 = b.1; omega) rfl
            rw [e]
            rcases versGo_head b3 (by omega) with hn | ⟨u, x, hu, hlt⟩
            · rw [hn, refGo_nil_right]
            · rw [hu, List.replicate_succ, List.cons_append, refGo, if_neg (by omega)]
      · rw [commonFrom, if_neg hv, List.replicate_succ, List.replicate_succ, List.cons_append, List.cons_append, refGo, if_neg hv]
def refCommonL (x y : List It) : It := refGo 0 (0, 0) (versGo 0 x) (versGo 0 y)
theorem refCommon_law (x y : List It) (hx : rises (0, 0) x) (hy : rises (0, 0) y) : refCommonL x y = commonL x y := refGo_law x y (0, 0) hx hy (by decide)
theorem commonFrom_comm (l m : List It) (out : It) : commonFrom out l m = commonFrom out m l := by
  induction l generalizing out m with
  | nil => rw [commonFrom_nil_left, commonFrom_nil_right]
  | cons a l ih =>
    rcases m with _ | ⟨b, m⟩
    · rw [commonFrom_nil_left, commonFrom_nil_right]
    · rw [commonFrom, commonFrom]
      by_cases hv : a.2 = b.2
      · rw [if_pos hv, if_pos hv.symm]
        by_cases hi : a.1 = b.1
        · rw [if_pos hi, if_pos hi.symm, ih, Int.min_comm, hv]
        · rw [if_neg hi, if_neg (fun e => hi e.symm), Int.min_comm, hv]
      · rw [if_neg hv, if_neg (fun e => hv e.symm)]
theorem commonL_comm (l m : List It) : commonL l m = commonL m l := commonFrom_comm l m _

/-! ### Which is the greater. -/
def lastL (l : List It) : It := l.getLast?.getD (0, 0)
def cmpI (a b : Int) : Int := if a < b then -1 else if b < a then 1 else 0
def cmpL (x y : List It) : Int := if cmpI (lastL x).2 (lastL y).2 ≠ 0 then cmpI (lastL x).2 (lastL y).2 else cmpI (lastL x).1 (lastL y).1
theorem cmpI_neg (a b : Int) : cmpI b a = - cmpI a b := by unfold cmpI; split <;> split <;> (try split) <;> omega
theorem cmpL_neg (x y : List It) : cmpL y x = - cmpL x y := by
  unfold cmpL
  rw [cmpI_neg (lastL x).2, cmpI_neg (lastL x).1]
  split <;> split <;> omega
end Go.Proofs.YtngfimjbgopgjaaGreatDoor

/- Contracts of items.Right. -/
namespace Go.Proofs.YtngfimjbgopgjaaGreatDoor
open Go.RowKit
set_option linter.unusedVariables false

/-- May an item stand behind another one? -/
def okI (last i : It) : Bool := decide (last.1 < i.1) && decide (i.1 ≤ 200) && decide (last.2 < i.2) && rightB i.2
/-- Are the items right, behind one? -/
def rightFrom (last : It) : List It → Bool
  | [] => true
  | i :: l => okI last i && rightFrom i l
/-- Are the items right? -/
def rightL (l : List It) : Bool := rightFrom (0, 0) l

end Go.Proofs.YtngfimjbgopgjaaGreatDoor

/- Plain laws of items that grow event by event, and of a beginning of them. No program in sight. -/
namespace Go.Proofs.YtngfimjbgopgjaaGreatDoor
set_option linter.unusedVariables false

def lastOr (q : It) : List It → It
  | [] => q
  | a :: l => lastOr a l
theorem lastOr_snoc (q a : It) (l : List It) : lastOr q (l ++ [a]) = a := by
  induction l generalizing q with
  | nil => rfl
  | cons b l ih => exact ih b
theorem lastL_or (l : List It) : lastL l = lastOr (0, 0) l := by
  rcases List.eq_nil_or_concat l with rfl | ⟨l, y, rfl⟩
  · rfl
  · rw [List.concat_eq_append, lastOr_snoc]
    simp [lastL]
theorem rises_last {q : It} {l : List It} (h : rises q l) : q.1 ≤ (lastOr q l).1 ∧ q.2 ≤ (lastOr q l).2 := by
  induction l generalizing q with
  | nil => exact ⟨by simp [lastOr], by simp [lastOr]⟩
  | cons a l ih =>
    obtain ⟨h1, h2, h3⟩ := h
    have := ih h3
    rw [lastOr]
    omega
theorem rises_snoc {q a : It} {l : List It} (h : rises q l) (h1 : (lastOr q l).1 < a.1) (h2 : (lastOr q l).2 < a.2) : rises q (l ++ [a]) := by
  induction l generalizing q with
  | nil => exact ⟨h1, h2, trivial⟩
  | cons b l ih => exact ⟨h.1, h.2.1, ih h.2.2 h1 h2⟩
theorem rises_front {q a : It} {l : List It} (h : rises q (l ++ [a])) : rises q l ∧ (lastOr q l).1 < a.1 ∧ (lastOr q l).2 < a.2 := by
  induction l generalizing q with
  | nil => exact ⟨trivial, h.1, h.2.1⟩
  | cons b l ih =>
    obtain ⟨h1, h2, h3⟩ := h
    obtain ⟨k1, k2, k3⟩ := ih h3
    exact ⟨⟨h1, h2, k1⟩, k2, k3⟩

theorem cut_law (l : List It) (q : It) (id : Int) (h : rises q l) (h1 : q.1 ≤ id) (h2 : id ≤ (lastOr q l).1) :
    (lastOr q (cutGo id q.1 l)).1 = id ∧ commonFrom q (cutGo id q.1 l) l = lastOr q (cutGo id q.1 l) ∧ (lastOr q (cutGo id q.1 l)).2 ≤ (lastOr q l).2 := by
  induction l generalizing q with
  | nil =>
    have e : id = q.1 := by simp only [lastOr] at h2; omega
    subst e
    exact ⟨rfl, rfl, by simp [lastOr, cutGo]⟩
  | cons a l ih =>
    by_cases hq : q.1 < id
    · obtain ⟨a1, a2, a3⟩ := h
      rw [lastOr] at h2
      rw [cutGo, if_pos hq]
      by_cases ha : a.1 ≤ id
      · rw [Int.min_eq_left ha, lastOr, lastOr, commonFrom, if_pos rfl, if_pos rfl, Int.min_self]
        exact ih a a3 ha h2
      · rw [Int.min_eq_right (by omega), cutGo_done (by omega), lastOr, lastOr, lastOr, commonFrom, if_pos rfl, if_neg (by show ¬ id = a.1; omega)]
        exact ⟨rfl, by rw [Int.min_eq_left (show id ≤ a.1 by omega)], (rises_last a3).2⟩
    · have e : id = q.1 := by omega
      subst e
      rw [cutGo_done hq, commonFrom_nil_left]
      exact ⟨rfl, rfl, (rises_last h).2⟩

theorem versGo_snoc (l : List It) (q a : It) (h : rises q l) (h0 : 0 ≤ q.1) :
    versGo q.1.toNat (l ++ [a]) = versGo q.1.toNat l ++ List.replicate (a.1.toNat - (lastOr q l).1.toNat) a.2 := by
  induction l generalizing q with
  | nil => simp [versGo, lastOr]
  | cons b l ih =>
    obtain ⟨h1, h2, h3⟩ := h
    rw [List.cons_append, versGo, versGo, Nat.max_eq_right (by omega), ih b h3 (by omega), lastOr, List.append_assoc]
theorem versGo_len (l : List It) (q : It) (h : rises q l) (h0 : 0 ≤ q.1) : (versGo q.1.toNat l).length = (lastOr q l).1.toNat - q.1.toNat := by
  induction l generalizing q with
  | nil => simp [versGo, lastOr]
  | cons b l ih =>
    obtain ⟨h1, h2, h3⟩ := h
    have := (rises_last h3).1
    rw [versGo, Nat.max_eq_right (by omega), List.length_append, List.length_replicate, ih b h3 (by omega), lastOr]
    omega
theorem ver_look (l : List It) (q : It) (id : Int) (h : rises q l) (h0 : 0 ≤ q.1) (h1 : q.1 < id) : verFrom id l = (versGo q.1.toNat l).getD (id - q.1 - 1).toNat 0 := by
  induction l generalizing q with
  | nil => simp [versGo, verFrom]
  | cons b l ih =>
    obtain ⟨k1, k2, k3⟩ := h
    rw [verFrom, versGo, Nat.max_eq_right (by omega), List.getD_eq_getElem?_getD]
    by_cases hb : id ≤ b.1
    · rw [if_pos hb, List.getElem?_append_left (by rw [List.length_replicate]; omega), List.getElem?_replicate, if_pos (by omega)]
      rfl
    · rw [if_neg hb, List.getElem?_append_right (by rw [List.length_replicate]; omega), List.length_replicate, ih b k3 (by omega) (by omega), List.getD_eq_getElem?_getD]
      congr 2
      omega

/-- Items that tell of the events want, one by one. -/
structure Tells (l : List It) (want : List Int) : Prop where
  up : rises (0, 0) l
  vers : versGo 0 l = want
theorem Tells.nil : Tells [] [] := ⟨trivial, rfl⟩
theorem Tells.last {l : List It} {want : List Int} (h : Tells l want) : (lastL l).1 = want.length := by
  have := versGo_len l (0, 0) h.up (by decide)
  have k := (rises_last h.up).1
  rw [lastL_or, ← h.vers]
  simp only [Int.toNat_zero] at this k
  rw [this]
  omega
theorem Tells.version {l : List It} {want : List Int} (h : Tells l want) (id : Int) (h1 : 1 ≤ id) : versionL l id = want.getD (id - 1).toNat 0 := by
  unfold versionL
  rw [if_neg (by omega), ver_look l (0, 0) id h.up (by decide) (by show (0 : Int) < id; omega), ← h.vers]
  simp
theorem Tells.grow {l : List It} {want : List Int} (h : Tells l want) (v : Int) (hv : (lastL l).2 ≤ v) (h0 : 0 < v) : Tells (grownL l (want.length + 1) v) (want ++ [v]) ∧ lastL (grownL l (want.length + 1) v) = ((want.length : Int) + 1, v) := by
  have hl := h.last
  rcases List.eq_nil_or_concat l with rfl | ⟨l, y, rfl⟩
  · have e : want = [] := h.vers.symm
    subst e
    exact ⟨⟨⟨(by decide : (0 : Int) < 0 + 1), h0, trivial⟩, rfl⟩, rfl⟩
  · rw [List.concat_eq_append] at *
    obtain ⟨k1, k2, k3⟩ := rises_front h.up
    have hw := h.vers
    have e0 := versGo_snoc l (0, 0) y k1 (by decide)
    simp only [Int.toNat_zero] at e0
    rw [e0] at hw
    rw [lastL_or, lastOr_snoc] at hl hv
    have k4 : 0 ≤ (lastOr (0, 0) l).1 := (rises_last k1).1
    rw [grownL_last]
    by_cases hy : y.2 = v
    · rw [if_pos hy]
      have e1 := versGo_snoc l (0, 0) ((want.length : Int) + 1, v) k1 (by decide)
      simp only [Int.toNat_zero] at e1
      refine ⟨⟨rises_snoc k1 (by show _ < (want.length : Int) + 1; omega) (by show _ < v; omega), ?_⟩, by rw [lastL_or, lastOr_snoc]⟩
      have hl' : y.1 = (want.length : Int) := hl
      clear hl
      generalize want.length = n at *
      rw [e1, ← hw, ← hy, List.append_assoc]
      congr 1
      rw [show [y.2] = List.replicate 1 y.2 from rfl, List.replicate_append_replicate]
      congr 1
      omega
    · rw [if_neg hy]
      have e1 := versGo_snoc (l ++ [y]) (0, 0) ((want.length : Int) + 1, v) h.up (by decide)
      simp only [Int.toNat_zero] at e1
      refine ⟨⟨rises_snoc h.up (by rw [lastOr_snoc]; show _ < (want.length : Int) + 1; omega) (by rw [lastOr_snoc]; show _ < v; omega), ?_⟩, by rw [lastL_or, lastOr_snoc]⟩
      rw [e1, lastOr_snoc, e0, hw, show ((want.length : Int) + 1).toNat - y.1.toNat = 1 by omega]
      rfl
/-- A beginning of them. -/
theorem Tells.cut {l : List It} {want : List Int} (h : Tells l want) (id : Int) (h0 : 0 ≤ id) (h1 : id ≤ want.length) :
    (lastL (cutL l id)).1 = id ∧ commonL (cutL l id) l = lastL (cutL l id) ∧ (id = want.length ∨ cmpL (cutL l id) l < 0) := by
  have hl := h.last
  rw [lastL_or] at hl
  obtain ⟨c1, c2, c3⟩ := cut_law l (0, 0) id h.up h0 (by omega)
  have c1' : (lastOr (0, 0) (cutL l id)).1 = id := c1
  have c3' : (lastOr (0, 0) (cutL l id)).2 ≤ (lastOr (0, 0) l).2 := c3
  refine ⟨by rw [lastL_or]; exact c1, by rw [lastL_or]; exact c2, ?_⟩
  by_cases hd : id = want.length
  · exact .inl hd
  · right
    unfold cmpL
    rw [lastL_or, lastL_or]
    generalize lastOr (0, 0) (cutL l id) = x at *
    generalize lastOr (0, 0) l = y at *
    unfold cmpI
    split <;> split <;> (try split) <;> omega
theorem rightFrom_of {q : It} {l : List It} (h : rises q l) (hr : ∀ a ∈ l, a.1 ≤ 200 ∧ rightB a.2 = true) : rightFrom q l = true := by
  induction l generalizing q with
  | nil => rfl
  | cons a l ih =>
    obtain ⟨h1, h2, h3⟩ := h
    obtain ⟨r1, r2⟩ := hr a (by simp)
    rw [rightFrom, ih h3 (fun b hb => hr b (by simp [hb])), okI, r2]
    simp [h1, h2, r1]
theorem grownL_all {P : It → Prop} {l : List It} {id v : Int} (h : ∀ a ∈ l, P a) (h1 : P (id, v)) : ∀ a ∈ grownL l id v, P a := by
  rcases List.eq_nil_or_concat l with rfl | ⟨l, y, rfl⟩
  · intro a ha
    rw [grownL_nil] at ha
    simp only [List.mem_singleton] at ha
    subst ha
    exact h1
  · rw [List.concat_eq_append] at *
    rw [grownL_last]
    intro a ha
    split at ha
    · rcases List.mem_append.1 ha with ha | ha
      · exact h a (by simp [ha])
      · simp only [List.mem_singleton] at ha; subst ha; exact h1
    · rcases List.mem_append.1 ha with ha | ha
      · exact h a ha
      · simp only [List.mem_singleton] at ha; subst ha; exact h1
end Go.Proofs.YtngfimjbgopgjaaGreatDoor

/- Contracts of items.Last, Version, Has, Cut. -/
namespace Go.Proofs.YtngfimjbgopgjaaGreatDoor
open Go.RowKit
set_option linter.unusedVariables false

/-- The two cells of the item at k. -/
theorem it_cells {w : World} {b o : Nat} {l : List It} (h : RdIt w (some ⟨b, o, none⟩) l) (k : Nat) (hk : k < l.length) : w.cell? ⟨b, o + k * 2, none⟩ = some (.int .i64 l[k].1) ∧ w.cell? ⟨b, o + k * 2 + 1, none⟩ = some (.int .i64 l[k].2) :=
  ⟨h.cells rfl _ _ (itC_id l k hk), by rw [Nat.add_assoc]; exact h.cells rfl _ _ (itC_ver l k hk)⟩

theorem beq_dec (a b : Int) : (a == b) = decide (a = b) := by rw [Bool.eq_iff_iff]; simp

end Go.Proofs.YtngfimjbgopgjaaGreatDoor

/- Contracts of items.Lay and of slices.Equal over bytes. -/
namespace Go.Proofs.YtngfimjbgopgjaaGreatDoor
open Go.RowKit
set_option linter.unusedVariables false

/-- The bytes of items, one by one. -/
def itB : List It → List Int
  | [] => []
  | x :: l => be (IntKind.u64.wrap x.1) 2 ++ be (IntKind.u64.wrap x.2) 8 ++ itB l
def layB (l : List It) : List Int := be (IntKind.u64.wrap l.length) 2 ++ itB l
theorem itB_len (l : List It) : (itB l).length = l.length * 10 := by
  induction l with
  | nil => rfl
  | cons x l ih => simp only [itB, List.length_append, be_length, ih, List.length_cons]; omega
theorem itB_snoc (l : List It) (x : It) : itB (l ++ [x]) = itB l ++ be (IntKind.u64.wrap x.1) 2 ++ be (IntKind.u64.wrap x.2) 8 := by
  induction l with
  | nil => simp [itB]
  | cons y l ih => simp [itB, ih]

end Go.Proofs.YtngfimjbgopgjaaGreatDoor

/- Events that bear an ID and a version alone, in memory; contracts of items.Of and of cutoverref8.Of over them. -/
namespace Go.Proofs.YtngfimjbgopgjaaGreatDoor
open Go.RowKit
set_option linter.unusedVariables false

theorem evInfo : (Tryz.prog.info? 32).map (fun i => (i.zero, i.size, i.bytes)) = some (some (.agg #[.int .i64 0, .int .i64 0, .int .i64 0, .int .i64 0, .int .i64 0, .int .i64 0, .string ByteArray.empty, .slice none 0 0, .slice none 0 0]), 9, 112) := by kernel_rfl
/-- An event's cells: an ID, a version. -/
def evR (x : It) : List Value := [.int .i64 x.1, .int .i64 x.2, .int .i64 0, .int .i64 0, .int .i64 0, .int .i64 0, .string ByteArray.empty, .slice none 0 0, .slice none 0 0]
def evC : List It → List Value
  | [] => []
  | x :: l => evR x ++ evC l
theorem evC_len (l : List It) : (evC l).length = l.length * 9 := by
  induction l with
  | nil => rfl
  | cons x l ih => simp only [evC, List.length_cons, List.length_append, ih, evR, List.length_nil]; omega
theorem evC_app (l m : List It) : evC (l ++ m) = evC l ++ evC m := by
  induction l with
  | nil => rfl
  | cons x l ih => simp [evC, ih]
theorem evC_one (l : List It) : ∀ u ∈ evC l, u.oneCell' = true := by
  induction l with
  | nil => intro u hu; cases hu
  | cons x l ih =>
    intro u hu
    rcases List.mem_append.1 hu with hu | hu
    · simp only [evR, List.mem_cons, List.not_mem_nil, or_false] at hu
      rcases hu with rfl | rfl | rfl | rfl | rfl | rfl | rfl | rfl | rfl <;> rfl
    · exact ih u hu
theorem evC_get (l : List It) (k j : Nat) (h : k < l.length) (hj : j < 9) : (evC l)[k * 9 + j]? = (evR l[k])[j]? := by
  induction l generalizing k with
  | nil => simp at h
  | cons x l ih =>
    have e : (evR x).length = 9 := rfl
    cases k with
    | zero => rw [evC, Nat.zero_mul, Nat.zero_add, List.getElem?_append_left (by omega)]; rfl
    | succ k => rw [evC, List.getElem?_append_right (by omega), e, show (k + 1) * 9 + j - 9 = k * 9 + j by omega]; exact ih k (by simpa using h)

/-- What the reading of an event asks: its nine cells. -/
theorem ev_cells {w : World} {b o : Nat} {l : List It} (h : Rd w (some ⟨b, o, none⟩) (evC l)) (k : Nat) (hk : k < l.length) :
    w.cell? ⟨b, o + k * 9, none⟩ = some (.int .i64 l[k].1) ∧ w.cell? ⟨b, o + k * 9 + 1, none⟩ = some (.int .i64 l[k].2) ∧ w.cell? ⟨b, o + k * 9 + 2, none⟩ = some (.int .i64 0) ∧ w.cell? ⟨b, o + k * 9 + 3, none⟩ = some (.int .i64 0) ∧
    w.cell? ⟨b, o + k * 9 + 4, none⟩ = some (.int .i64 0) ∧ w.cell? ⟨b, o + k * 9 + 5, none⟩ = some (.int .i64 0) ∧ w.cell? ⟨b, o + k * 9 + 6, none⟩ = some (.string ByteArray.empty) ∧ w.cell? ⟨b, o + k * 9 + 7, none⟩ = some (.slice none 0 0) ∧ w.cell? ⟨b, o + k * 9 + 8, none⟩ = some (.slice none 0 0) := by
  have H : ∀ j, j < 9 → ∀ u, (evR l[k])[j]? = some u → w.cell? ⟨b, o + k * 9 + j, none⟩ = some u := fun j hj u hu => by
    rw [Nat.add_assoc]
    exact h.cells rfl _ _ ((evC_get l k j hk hj).trans hu)
  exact ⟨H 0 (by omega) _ rfl, H 1 (by omega) _ rfl, H 2 (by omega) _ rfl, H 3 (by omega) _ rfl, H 4 (by omega) _ rfl, H 5 (by omega) _ rfl, H 6 (by omega) _ rfl, H 7 (by omega) _ rfl, H 8 (by omega) _ rfl⟩

/-- The items of events, the first one's ID counted up. -/
def ofL (es : List It) : List It := itemsTo (es.headD (0, 0)).1 (es.map (·.2)) es.length

theorem intInfo : (Tryz.prog.info? 3).map (fun i => (i.zero, i.size, i.bytes)) = some (some (.int .i64 0), 1, 8) := by kernel_rfl
theorem ints_one (l : List Int) : ∀ u ∈ l.map (Value.int .i64), u.oneCell' = true := by
  intro u hu
  obtain ⟨x, _, rfl⟩ := List.mem_map.1 hu
  rfl
theorem take_map_snoc (es : List It) (k : Nat) (h : k < es.length) : (es.take (k + 1)).map (fun x => x.2) = (es.take k).map (fun x => x.2) ++ [es[k].2] := by
  rw [List.take_add_one, List.getElem?_eq_getElem h, List.map_append]
  rfl

end Go.Proofs.YtngfimjbgopgjaaGreatDoor

/- Contracts of slices.Equal over bytes, and of items.Read at the bytes of two items. -/
namespace Go.Proofs.YtngfimjbgopgjaaGreatDoor
open Go.RowKit
set_option linter.unusedVariables false

set_option maxHeartbeats 1000000 in
theorem equalB_any (A B : Option Addr) (n m c d : Nat) (l l' : List Int) (w : World) (ha : Rd w A (l.map (Value.int .u8))) (hb : Rd w B (l'.map (Value.int .u8))) (hn : l.length = n) (hm : l'.length = m) (hn2 : n ≤ 1048576) (hm2 : m ≤ 1048576) :
    Calls Tryz.prog 37 #[.slice A n c, .slice B m d] w fun e w' => e = .returned (.bool (decide (l = l'))) ∧ Chg (fun _ => False) w w' := by
  subst hn hm
  have HA := Lib.hid ha
  have HB := Lib.hid hb
  clear ha hb
  by_cases hlen : l.length = l'.length
  · have hd : decide (l.length = l'.length) = true := by simpa using hlen
    go_enter Tryz.func37, Tryz.ntmps37
    go_wp2_with fail
    go_loopw [13] (fun i wr => ∃ k : Nat, k ≤ l.length ∧ i = .int .i64 k ∧ l.take k = l'.take k ∧ Chg (fun _ => False) w wr) (fun i _ => l.length - (intOf i).toNat)
    case atStart => exact ⟨0, by omega, rfl, by simp, Chg.refl _ _⟩
    case round =>
      obtain ⟨k, hk, rfl, ht, hc⟩ := hrel
      by_cases hkn : k < l.length
      · have hkm : k < l'.length := by omega
        obtain ⟨b, o, rfl, hq⟩ := (HA.out.keep hc (fun _ _ h => h)).at_ (k := k) (by simpa using hkn)
        obtain ⟨b', o', rfl, hq'⟩ := (HB.out.keep hc (fun _ _ h => h)).at_ (k := k) (by simpa using hkm)
        rw [List.getElem_map] at hq hq'
        obtain ⟨x, hx⟩ : ∃ x, x = l[k] := ⟨_, rfl⟩
        obtain ⟨y, hy⟩ : ∃ y, y = l'[k] := ⟨_, rfl⟩
        rw [← hx] at hq
        rw [← hy] at hq'
        have HX := Lib.hid hx
        have HY := Lib.hid hy
        have HT := Lib.hid ht
        clear hx hy ht
        by_cases hxy : x = y
        · subst hxy
          have hb : (x != x) = false := by simp
          go_wp2_with fail
          go_quiet (fail)
          go_wp2_with fail
          go_roundw
          case rel => exact ⟨k + 1, by omega, by go_num, by rw [List.take_add_one, List.take_add_one, HT.out, List.getElem?_eq_getElem hkn, List.getElem?_eq_getElem hkm, ← HX.out, ← HY.out], hc.drewN _⟩
          case measure => simp [intOf]; omega
        · have hne : l ≠ l' := by
            intro e
            subst e
            exact hxy (HX.out.trans HY.out.symm)
          have HE := Lib.hid hne
          have hb : (x != y) = true := by simpa using hxy
          have hb2 : decide (x = y) = false := by simpa using hxy
          clear hne
          go_wp2_with fail
          go_quiet (fail)
          go_wp2_with fail
          go_ret
          exact ⟨by rw [decide_eq_false HE.out]; rfl, hc.drewN _⟩
      · have hkn' : k = l.length := by omega
        subst hkn'
        have hll : l = l' := by
          rw [List.take_of_length_le (Nat.le_refl _), List.take_of_length_le (by omega)] at ht
          exact ht
        have HE := Lib.hid hll
        clear hll ht
        go_wp2_with fail
        go_ret
        exact ⟨by rw [decide_eq_true HE.out]; rfl, hc⟩
  · have hd : decide (l.length = l'.length) = false := by simpa using hlen
    go_enter Tryz.func37, Tryz.ntmps37
    go_wp2_with fail
    go_ret
    exact ⟨by rw [decide_eq_false (fun e => hlen (by rw [e]))]; rfl, Chg.refl _ _⟩

/-- The two items of chapter 9's example, and their bytes. -/
def exL : List It := [(3, 1), (5, 12)]
def exB : List Int := [0, 2, 0, 3, 0, 0, 0, 0, 0, 0, 0, 1, 0, 5, 0, 0, 0, 0, 0, 0, 0, 12]
theorem exL_lay : layB exL = exB := by simp [layB, itB, exL, exB, be, IntKind.wrap_u64]
/-- What is left behind the first k items. -/
def exR (t : List Int) (k : Nat) : List Int := (exB ++ t).drop (2 + 10 * k)
theorem ex_nums (t : List Int) (ht : t = [] ∨ t = [0]) : numR false (exB ++ t) 2 = (2, false, exR t 0) ∧
    ∀ k, k < 2 → numR false (exR t k) 2 = ((exL.getD k (0, 0)).1, false, (exR t k).drop 2) ∧ numR false ((exR t k).drop 2) 8 = ((exL.getD k (0, 0)).2, false, exR t (k + 1)) := by
  rcases ht with rfl | rfl
  · refine ⟨by kernel_rfl, fun k hk => ?_⟩
    match k, hk with
    | 0, _ => exact ⟨by kernel_rfl, by kernel_rfl⟩
    | 1, _ => exact ⟨by kernel_rfl, by kernel_rfl⟩
  · refine ⟨by kernel_rfl, fun k hk => ?_⟩
    match k, hk with
    | 0, _ => exact ⟨by kernel_rfl, by kernel_rfl⟩
    | 1, _ => exact ⟨by kernel_rfl, by kernel_rfl⟩
theorem exL_right : rightL exL = true := by kernel_rfl
theorem exB_byt : ∀ x ∈ exB, 0 ≤ x ∧ x ≤ 255 := by decide

end Go.Proofs.YtngfimjbgopgjaaGreatDoor
