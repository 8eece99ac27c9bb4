/- Parts of a row of events, one of them changed; Line at a told length. -/
import Derived.Test.YtngfimjbgopgjaaDoorEvOwnAll
import Derived.Test.YtngfimjbgopgjaaDoorEvList
namespace Go.Proofs.YtngfimjbgopgjaaDoor
open Go.RowKit
set_option linter.unusedVariables false

theorem tells_so {P : Prop} {w w' : World} {e : Ending} (h : Tells2 P w e w') (hp : P) : e = .returned (.bool true) ∧ Chg (fun _ => False) w w' := by
  obtain ⟨⟨b, he, hb⟩, hc⟩ := h
  rw [hb.2 hp] at he
  exact ⟨he, hc⟩
theorem tells_not {P : Prop} {w w' : World} {e : Ending} (h : Tells2 P w e w') (hp : ¬ P) : e = .returned (.bool false) ∧ Chg (fun _ => False) w w' := by
  obtain ⟨⟨b, he, hb⟩, hc⟩ := h
  cases b
  · exact ⟨he, hc⟩
  · exact absurd (hb.1 rfl) hp
/-- Line of a slice that is told by its length. -/
theorem line_yes (A : Option Addr) (n c : Nat) (l : List EvF) (w : World) (h : RdEv w A l) (hn : l.length = n) (hl : n ≤ 1048576) (hL : IsLine l) :
    Calls Tryd.prog 23 #[.slice A n c] w fun e w' => e = .returned (.bool true) ∧ Chg (fun _ => False) w w' := by
  subst hn
  exact (line_any A c l w h hl).mono fun e w' h => tells_so h hL
theorem line_no (A : Option Addr) (n c : Nat) (l : List EvF) (w : World) (h : RdEv w A l) (hn : l.length = n) (hl : n ≤ 1048576) (hL : ¬ IsLine l) :
    Calls Tryd.prog 23 #[.slice A n c] w fun e w' => e = .returned (.bool false) ∧ Chg (fun _ => False) w w' := by
  subst hn
  exact (line_any A c l w h hl).mono fun e w' h => tells_not h hL
theorem own_at {w0 w : World} {A : Option Addr} {c : Nat} {l : List EvF} (h : OwnL w0 w A c l) : (A = none ∧ l = [] ∧ c = 0) ∨ ∃ g, A = some ⟨g, 0, none⟩ ∧ l.length ≤ c := by
  rcases h.own.2 with ⟨h0, h1⟩ | ⟨g9, cap9, cur9, hv9, _, _, hl9, _⟩
  · injection h0 with h2 h3 h4
    exact .inl ⟨h2, List.length_eq_zero_iff.1 h1, h4⟩
  · injection hv9 with h2 _ h9
    exact .inr ⟨g9, h2, by omega⟩
theorem eoC_take (l : List EvF) (k : Nat) : eoC (l.take k) = (eoC l).take (k * 9) := by
  induction l generalizing k with
  | nil => simp [eoC]
  | cons x l ih =>
    cases k with
    | zero => simp [eoC]
    | succ k =>
      rw [show (k + 1) * 9 = k * 9 + 1 + 1 + 1 + 1 + 1 + 1 + 1 + 1 + 1 by omega]
      simp [eoC, ih]
theorem eoC_drop (l : List EvF) (k : Nat) : eoC (l.drop k) = (eoC l).drop (k * 9) := by
  induction l generalizing k with
  | nil => simp [eoC]
  | cons x l ih =>
    cases k with
    | zero => simp [eoC]
    | succ k =>
      rw [show (k + 1) * 9 = k * 9 + 1 + 1 + 1 + 1 + 1 + 1 + 1 + 1 + 1 by omega]
      simp [eoC, ih]
theorem RdEv.cut {w : World} {b o : Nat} {l : List EvF} (h : RdEv w (some ⟨b, o, none⟩) l) (f t : Nat) : RdEv w (some ⟨b, o + f * 9, none⟩) ((l.take t).drop f) :=
  ⟨by rw [eoC_drop, eoC_take]; exact (h.rd.take (t * 9)).drop (f * 9), fun x hx => h.ev x (List.mem_of_mem_take (List.mem_of_mem_drop hx))⟩

/-- One event stored, cell by cell. -/
def putEv (w : World) (g k : Nat) (f : EvF) : World := ((((((((w.setCell ⟨g, k, none⟩ (.int .i64 f.id)).setCell ⟨g, k + 1, none⟩ (.int .i64 f.ver)).setCell ⟨g, k + 2, none⟩ (.int .i64 f.tm)).setCell ⟨g, k + 3, none⟩ (.int .i64 f.ty)).setCell ⟨g, k + 4, none⟩ (.int .i64 f.node)).setCell ⟨g, k + 5, none⟩ (.int .i64 f.m)).setCell ⟨g, k + 6, none⟩ (.string f.nm)).setCell ⟨g, k + 7, none⟩ (.slice f.A f.bs.length f.c)).setCell ⟨g, k + 8, none⟩ (.slice f.D f.dl.length f.dc)
theorem eoC_set (l : List EvF) (k : Nat) (f : EvF) (h : k < l.length) : eoC (l.set k f) = ((((((((((eoC l).set (k * 9) (.int .i64 f.id)).set (k * 9 + 1) (.int .i64 f.ver)).set (k * 9 + 2) (.int .i64 f.tm)).set (k * 9 + 3) (.int .i64 f.ty)).set (k * 9 + 4) (.int .i64 f.node)).set (k * 9 + 5) (.int .i64 f.m)).set (k * 9 + 6) (.string f.nm)).set (k * 9 + 7) (.slice f.A f.bs.length f.c)).set (k * 9 + 8) (.slice f.D f.dl.length f.dc)) := by
  induction l generalizing k with
  | nil => simp at h
  | cons x l ih =>
    cases k with
    | zero => simp [eoC]
    | succ k =>
      rw [List.set_cons_succ, eoC, ih k (by simpa using h), show (k + 1) * 9 = k * 9 + 1 + 1 + 1 + 1 + 1 + 1 + 1 + 1 + 1 by omega]
      simp [eoC]
theorem putEv_own {w : World} {base g n c : Nat} {l : List EvF} (h : w.ownsRow base 28 9 (.slice (some ⟨g, 0, none⟩) n c) n (eoC l)) (k : Nat) (hk : k < l.length) (f : EvF) :
    (putEv w g (k * 9) f).ownsRow base 28 9 (.slice (some ⟨g, 0, none⟩) n c) n (eoC (l.set k f)) := by
  rw [eoC_set l k f hk]
  exact ((((((((h.stored _ _).1.stored _ _).1.stored _ _).1.stored _ _).1.stored _ _).1.stored _ _).1.stored _ _).1.stored _ _).1.stored _ _ |>.1
theorem putEv_chg (w : World) (g k : Nat) (f : EvF) : Chg (· = g) w (putEv w g k f) := by
  unfold putEv
  have step : ∀ {v : World} (j : Nat) (u : Value), Chg (· = g) w v → Chg (· = g) w (v.setCell ⟨g, j, none⟩ u) := fun j u h => h.setCell (p := ⟨g, j, none⟩) (.inl rfl) u
  exact step _ _ (step _ _ (step _ _ (step _ _ (step _ _ (step _ _ (step _ _ (step _ _ (step _ _ (Chg.refl _ _)))))))))
theorem ReadAllGave.ok {w w' : World} {xs : List Int} {e : Ending} (h : ReadAllGave w xs e w') {vs : List EvV} (hg : Good vs) (he : allB vs = xs) :
    (∃ (A : Option Addr) (c : Nat) (l : List EvF), e = .returned (.tuple #[.slice A l.length c, .int .i64 0]) ∧ RdEv w' A l ∧ GoodF l ∧ l.map EvF.v = vs) ∧ Chg (fun _ => False) w w' := by
  obtain ⟨h1, hc⟩ := h
  rcases h1 with ⟨A, c, l, h1, h2, h3, h4⟩ | h1
  · exact ⟨⟨A, c, l, h1, h2, h3, allB_inj h3.v hg (by rw [he]; exact h4)⟩, hc⟩
  · exact absurd ⟨vs, hg, he⟩ h1.2
theorem Chain.noOut {l : List EvF} {a b : Int × Int × Int} (h : Chain a l b) (k : Nat) (h1 : 1 ≤ k) (h2 : k + 1 < l.length) : ¬ IsLine (l.take k ++ l.drop (k + 1)) := fun hL => by
  have hlen : (l.take k ++ l.drop (k + 1)).length = l.length - 1 := by rw [List.length_append, List.length_take, List.length_drop]; omega
  have h3 := (hL k (by rw [hlen]; omega) (by rw [hlen]; omega)).2 h1
  have e1 : (l.take k ++ l.drop (k + 1))[k]'(by rw [hlen]; omega) = l[k + 1] := by
    rw [List.getElem_append_right (by rw [List.length_take]; omega)]
    simp only [List.getElem_drop, List.length_take]
    congr 1
    omega
  have e2 : (l.take k ++ l.drop (k + 1))[k - 1]'(by rw [hlen]; omega) = l[k - 1] := by
    rw [List.getElem_append_left (by rw [List.length_take]; omega)]
    simp only [List.getElem_take]
  rw [e1, e2] at h3
  have h4 := (h.at (k + 1) h2).2.1
  have h5 := (h.at (k - 1) (by omega)).2.1
  omega
theorem Chain.noTurn {l : List EvF} {a b : Int × Int × Int} (h : Chain a l b) (k : Nat) (h2 : k + 1 < l.length) : ¬ IsLine ((l.set (k + 1) (l[k]'(by omega))).set k l[k + 1]) := fun hL => by
  have h3 := (hL (k + 1) (by simpa using h2) (by simpa using h2)).2 (by omega)
  have e1 : ((l.set (k + 1) (l[k]'(by omega))).set k l[k + 1])[k + 1]'(by simpa using h2) = l[k]'(by omega) := by
    rw [List.getElem_set_ne (by omega), List.getElem_set_self]
  have e2 : ((l.set (k + 1) (l[k]'(by omega))).set k l[k + 1])[k + 1 - 1]'(by simp; omega) = l[k + 1] := by
    simp
  rw [e1, e2] at h3
  have h4 := (h.at (k + 1) h2).2.1
  have h5 := (h.at k (by omega)).2.1
  omega
end Go.Proofs.YtngfimjbgopgjaaDoor
