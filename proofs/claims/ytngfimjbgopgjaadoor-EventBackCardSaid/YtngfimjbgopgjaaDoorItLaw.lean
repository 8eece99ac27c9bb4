/- Plain laws of items: what two rising lists have in common, said in two ways. No program in sight. -/
import Derived.Test.YtngfimjbgopgjaaDoorItDef
namespace Go.Proofs.YtngfimjbgopgjaaDoor
set_option linter.unusedVariables false

/-- IDs and versions rise, behind an item. -/
def rises (q : It) : List It → Prop
  | [] => True
  | a :: l => q.1 < a.1 ∧ q.2 < a.2 ∧ rises a l
/-- The version of an event, 0 where there is none. -/
def verFrom (id : Int) : List It → Int
  | [] => 0
  | a :: l => if id ≤ a.1 then a.2 else verFrom id l
def versionL (l : List It) (id : Int) : Int := if id < 1 then 0 else verFrom id l
def hasL (l : List It) (i : It) : Bool := if i.1 = 0 then decide (i.2 = 0) else (!decide (versionL l i.1 = 0) && decide (versionL l i.1 = i.2))
def cutGo (id last : Int) : List It → List It
  | [] => []
  | a :: l => if last < id then (min a.1 id, a.2) :: cutGo id (min a.1 id) l else cutGo id last l
def cutL (l : List It) (id : Int) : List It := cutGo id 0 l
theorem cutGo_done {id last : Int} (h : ¬ last < id) (l : List It) : cutGo id last l = [] := by
  induction l with
  | nil => rfl
  | cons a l ih => rw [cutGo, if_neg h, ih]
theorem verFrom_rises {q : It} {l : List It} (h : rises q l) (id : Int) : verFrom id l = 0 ∨ q.2 < verFrom id l := by
  induction l generalizing q with
  | nil => exact .inl rfl
  | cons a l ih =>
    obtain ⟨h1, h2, h3⟩ := h
    rw [verFrom]
    split
    · exact .inr h2
    · rcases ih h3 with e | e
      · exact .inl e
      · exact .inr (by omega)

theorem common_law (l m : List It) (out : It) (hl : rises out l) (hm : rises out m) (h1 : 0 ≤ out.1) (h2 : 0 ≤ out.2) :
    (commonFrom out l m = out ∨ out.1 < (commonFrom out l m).1 ∧ (commonFrom out l m).2 ≠ 0 ∧ verFrom (commonFrom out l m).1 l = (commonFrom out l m).2 ∧ verFrom (commonFrom out l m).1 m = (commonFrom out l m).2) ∧
    out.1 ≤ (commonFrom out l m).1 ∧ cutGo (commonFrom out l m).1 out.1 l = cutGo (commonFrom out l m).1 out.1 m ∧
    (verFrom ((commonFrom out l m).1 + 1) l = 0 ∨ verFrom ((commonFrom out l m).1 + 1) m = 0 ∨ verFrom ((commonFrom out l m).1 + 1) l ≠ verFrom ((commonFrom out l m).1 + 1) m) := by
  induction l generalizing out m with
  | nil => rw [commonFrom_nil_left]; exact ⟨.inl rfl, by omega, by rw [cutGo_done (by omega), cutGo_done (by omega)], .inl rfl⟩
  | cons a l ih =>
    rcases m with _ | ⟨b, m⟩
    · rw [commonFrom_nil_right]; exact ⟨.inl rfl, by omega, by rw [cutGo_done (by omega), cutGo_done (by omega)], .inr (.inl rfl)⟩
    · obtain ⟨a1, a2, a3⟩ := hl
      obtain ⟨b1, b2, b3⟩ := hm
      by_cases hv : a.2 = b.2
      · by_cases hi : a.1 = b.1
        · have hab : a = b := Prod.ext hi hv
          subst hab
          have hc : commonFrom out (a :: l) (a :: m) = commonFrom a l m := by rw [commonFrom, if_pos rfl, if_pos rfl, Int.min_self]
          rw [hc]
          obtain ⟨q1, q2, q3, q4⟩ := ih m a a3 b3 (by omega) (by omega)
          generalize commonFrom a l m = c at *
          refine ⟨.inr ⟨by omega, ?_, ?_, ?_⟩, by omega, ?_, ?_⟩
          · rcases q1 with rfl | ⟨_, q, _⟩
            · omega
            · exact q
          · rcases q1 with rfl | ⟨q5, _, q6, _⟩
            · rw [verFrom, if_pos (by omega)]
            · rw [verFrom, if_neg (by omega), q6]
          · rcases q1 with rfl | ⟨q5, _, _, q6⟩
            · rw [verFrom, if_pos (by omega)]
            · rw [verFrom, if_neg (by omega), q6]
          · rw [cutGo, cutGo, if_pos (by omega), if_pos (by omega), Int.min_eq_left q2, q3]
          · rw [verFrom, verFrom, if_neg (by omega), if_neg (by omega)]
            exact q4
        · have hc : commonFrom out (a :: l) (b :: m) = (min a.1 b.1, a.2) := by rw [commonFrom, if_pos hv, if_neg hi]
          rw [hc]
          have m1 : min a.1 b.1 ≤ a.1 := Int.min_le_left _ _
          have m2 : min a.1 b.1 ≤ b.1 := Int.min_le_right _ _
          have m3 : min a.1 b.1 = a.1 ∨ min a.1 b.1 = b.1 := by omega
          refine ⟨.inr ⟨by show out.1 < min a.1 b.1; omega, by show a.2 ≠ 0; omega, by rw [verFrom, if_pos m1], by rw [verFrom, if_pos m2]; exact hv.symm⟩, by show out.1 ≤ min a.1 b.1; omega, ?_, ?_⟩
          · show cutGo (min a.1 b.1) out.1 (a :: l) = cutGo (min a.1 b.1) out.1 (b :: m)
            rw [cutGo, cutGo, if_pos (by omega), if_pos (by omega), Int.min_eq_right m1, Int.min_eq_right m2, cutGo_done (by omega), cutGo_done (by omega), hv]
          · show verFrom (min a.1 b.1 + 1) (a :: l) = 0 ∨ verFrom (min a.1 b.1 + 1) (b :: m) = 0 ∨ verFrom (min a.1 b.1 + 1) (a :: l) ≠ verFrom (min a.1 b.1 + 1) (b :: m)
            rcases Int.lt_or_gt_of_ne hi with h | h
            · rw [Int.min_eq_left (by omega), verFrom, if_neg (by omega), verFrom, if_pos (by omega)]
              rcases verFrom_rises a3 (a.1 + 1) with e | e
              · exact .inl e
              · exact .inr (.inr (by omega))
            · rw [Int.min_eq_right (by omega), verFrom, if_pos (by omega), verFrom, if_neg (by omega)]
              rcases verFrom_rises b3 (b.1 + 1) with e | e
              · exact .inr (.inl e)
              · exact .inr (.inr (by omega))
      · have hc : commonFrom out (a :: l) (b :: m) = out := by rw [commonFrom, if_neg hv]
        rw [hc]
        exact ⟨.inl rfl, by omega, by rw [cutGo_done (by omega), cutGo_done (by omega)], .inr (.inr (by rw [verFrom, verFrom, if_pos (by omega), if_pos (by omega)]; exact hv))⟩

theorem common_has (x y : List It) (hx : rises (0, 0) x) (hy : rises (0, 0) y) :
    hasL x (commonL x y) = true ∧ hasL y (commonL x y) = true ∧ cutL x (commonL x y).1 = cutL y (commonL x y).1 ∧
    (versionL x ((commonL x y).1 + 1) = 0 ∨ versionL y ((commonL x y).1 + 1) = 0 ∨ versionL x ((commonL x y).1 + 1) ≠ versionL y ((commonL x y).1 + 1)) := by
  obtain ⟨q1, q2, q3, q4⟩ := common_law x y (0, 0) hx hy (by omega) (by omega)
  unfold commonL
  generalize commonFrom (0, 0) x y = c at *
  have q2' : 0 ≤ c.1 := q2
  refine ⟨?_, ?_, q3, ?_⟩
  · rcases q1 with rfl | ⟨q5, q6, q7, q8⟩
    · rfl
    · have q5' : 0 < c.1 := q5
      have e : versionL x c.1 = c.2 := by unfold versionL; rw [if_neg (by omega), q7]
      simp [hasL, show ¬ c.1 = 0 by omega, e, q6]
  · rcases q1 with rfl | ⟨q5, q6, q7, q8⟩
    · rfl
    · have q5' : 0 < c.1 := q5
      have e : versionL y c.1 = c.2 := by unfold versionL; rw [if_neg (by omega), q8]
      simp [hasL, show ¬ c.1 = 0 by omega, e, q6]
  · simp only [versionL]
    rw [if_neg (by omega), if_neg (by omega)]
    exact q4

/-! ### Event by event. -/
def versGo (n : Nat) : List It → List Int
  | [] => []
  | a :: l => List.replicate (a.1.toNat - n) a.2 ++ versGo (max n a.1.toNat) l
def refGo (i : Nat) (out : It) : List Int → List Int → It
  | u :: x, v :: y => if u = v then refGo (i + 1) ((i : Int) + 1, u) x y else out
  | _, _ => out
theorem refGo_nil_left (i : Nat) (out : It) (m : List Int) : refGo i out [] m = out := by cases m <;> rfl
theorem refGo_nil_right (i : Nat) (out : It) (l : List Int) : refGo i out l [] = out := by cases l <;> rfl
theorem refGo_rep (k i : Nat) (out : It) (u : Int) (X Y : List Int) :
    refGo i out (List.replicate (k + 1) u ++ X) (List.replicate (k + 1) u ++ Y) = refGo (i + k + 1) ((i : Int) + k + 1, u) X Y := by
  induction k generalizing i out with
  | zero => simp [refGo]
  | succ k ih =>
    rw [List.replicate_succ, List.cons_append, List.cons_append, refGo, if_pos rfl, ih]
    rw [show i + 1 + k + 1 = i + (k + 1) + 1 by omega]
    congr 2
    omega
theorem versGo_head {q : It} {l : List It} (h : rises q l) (h0 : 0 ≤ q.1) : versGo q.1.toNat l = [] ∨ ∃ u x, versGo q.1.toNat l = u :: x ∧ q.2 < u := by
  rcases l with _ | ⟨a, l⟩
  · exact .inl rfl
  · obtain ⟨h1, h2, h3⟩ := h
    right
    rw [versGo]
    obtain ⟨k, hk⟩ : ∃ k, a.1.toNat - q.1.toNat = k + 1 := ⟨a.1.toNat - q.1.toNat - 1, by omega⟩
    rw [hk, List.replicate_succ]
    exact ⟨_, _, rfl, h2⟩
theorem refGo_law (l m : List It) (out : It) (hl : rises out l) (hm : rises out m) (h1 : 0 ≤ out.1) :
    refGo out.1.toNat out (versGo out.1.toNat l) (versGo out.1.toNat m) = commonFrom out l m := by
  induction l generalizing out m with
  | nil => rw [commonFrom_nil_left, versGo, refGo_nil_left]
  | cons a l ih =>
    rcases m with _ | ⟨b, m⟩
    · rw [commonFrom_nil_right, versGo, refGo_nil_right]
    · obtain ⟨a1, a2, a3⟩ := hl
      obtain ⟨b1, b2, b3⟩ := hm
      obtain ⟨p, hp⟩ : ∃ p, a.1.toNat - out.1.toNat = p + 1 := ⟨a.1.toNat - out.1.toNat - 1, by omega⟩
      obtain ⟨q, hq⟩ : ∃ q, b.1.toNat - out.1.toNat = q + 1 := ⟨b.1.toNat - out.1.toNat - 1, by omega⟩
      rw [versGo, versGo, hp, hq, Nat.max_eq_right (by omega), Nat.max_eq_right (by omega)]
      by_cases hv : a.2 = b.2
      · rw [← hv]
        by_cases hi : a.1 = b.1
        · have hab : a = b := Prod.ext hi hv
          subst hab
          have hpq : p = q := by omega
          subst hpq
          rw [refGo_rep, commonFrom, if_pos rfl, if_pos rfl, Int.min_self]
          have := ih m a a3 b3 (by omega)
          rw [← this]
          congr 1
          · omega
          · exact Prod.ext (by show (out.1.toNat : Int) + p + 1 = a.1; omega) rfl
        · rw [commonFrom, if_pos hv, if_neg hi]
          rcases Int.lt_or_gt_of_ne hi with h | h
          · obtain ⟨r, hr⟩ : ∃ r, q + 1 = (p + 1) + (r + 1) := ⟨q - p - 1, by omega⟩
            rw [hr, ← List.replicate_append_replicate (n := p + 1) (m := r + 1), List.append_assoc, refGo_rep, Int.min_eq_left (by omega)]
            have e : ((out.1.toNat : Int) + p + 1, a.2) = (a.1, a.2) := Prod.ext (by show (out.1.toNat : Int) + p + 1 = a.1; omega) rfl
            rw [e]
            rcases versGo_head a3 (by omega) with hn | ⟨u, x, hu, hlt⟩
            · rw [hn, refGo_nil_left]
            · rw [hu, List.replicate_succ, List.cons_append, refGo, if_neg (by omega)]
          · obtain ⟨r, hr⟩ : ∃ r, p + 1 = (q + 1) + (r + 1) := ⟨p - q - 1, by omega⟩
            rw [hr, ← List.replicate_append_replicate (n := q + 1) (m := r + 1), List.append_assoc, refGo_rep, Int.min_eq_right (by omega)]
            have e : ((out.1.toNat : Int) + q + 1, a.2) = (b.1, a.2) := Prod.ext (by show (out.1.toNat : Int) + q + 1 = b.1; omega) rfl
            rw [e]
            rcases versGo_head b3 (by omega) with hn | ⟨u, x, hu, hlt⟩
            · rw [hn, refGo_nil_right]
            · rw [hu, List.replicate_succ, List.cons_append, refGo, if_neg (by omega)]
      · rw [commonFrom, if_neg hv, List.replicate_succ, List.replicate_succ, List.cons_append, List.cons_append, refGo, if_neg hv]
def refCommonL (x y : List It) : It := refGo 0 (0, 0) (versGo 0 x) (versGo 0 y)
theorem refCommon_law (x y : List It) (hx : rises (0, 0) x) (hy : rises (0, 0) y) : refCommonL x y = commonL x y := refGo_law x y (0, 0) hx hy (by decide)
theorem commonFrom_comm (l m : List It) (out : It) : commonFrom out l m = commonFrom out m l := by
  induction l generalizing out m with
  | nil => rw [commonFrom_nil_left, commonFrom_nil_right]
  | cons a l ih =>
    rcases m with _ | ⟨b, m⟩
    · rw [commonFrom_nil_left, commonFrom_nil_right]
    · rw [commonFrom, commonFrom]
      by_cases hv : a.2 = b.2
      · rw [if_pos hv, if_pos hv.symm]
        by_cases hi : a.1 = b.1
        · rw [if_pos hi, if_pos hi.symm, ih, Int.min_comm, hv]
        · rw [if_neg hi, if_neg (fun e => hi e.symm), Int.min_comm, hv]
      · rw [if_neg hv, if_neg (fun e => hv e.symm)]
theorem commonL_comm (l m : List It) : commonL l m = commonL m l := commonFrom_comm l m _

/-! ### Which is the greater. -/
def lastL (l : List It) : It := l.getLast?.getD (0, 0)
def cmpI (a b : Int) : Int := if a < b then -1 else if b < a then 1 else 0
def cmpL (x y : List It) : Int := if cmpI (lastL x).2 (lastL y).2 ≠ 0 then cmpI (lastL x).2 (lastL y).2 else cmpI (lastL x).1 (lastL y).1
theorem cmpI_neg (a b : Int) : cmpI b a = - cmpI a b := by unfold cmpI; split <;> split <;> (try split) <;> omega
theorem cmpL_neg (x y : List It) : cmpL y x = - cmpL x y := by
  unfold cmpL
  rw [cmpI_neg (lastL x).2, cmpI_neg (lastL x).1]
  split <;> split <;> omega
end Go.Proofs.YtngfimjbgopgjaaDoor
