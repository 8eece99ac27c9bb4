/- EvAll, EvOwn, in one text (merge.py). -/
import Derived.Test.YtngfimjbgopgjaaGreatDoorEvConAll
/- The plain law of lists of events: their bytes, read back; lines. -/
namespace Go.Proofs.YtngfimjbgopgjaaGreatDoor
open Go.RowKit
set_option linter.unusedVariables false

/-! ### Bytes of a list. -/
def manyB : List EvV → List Int
  | [] => []
  | v :: l => shortB v.lay ++ manyB l
def allB (l : List EvV) : List Int := be (IntKind.u64.wrap (l.length : Int)) 2 ++ manyB l
/-- Not too many, all of them right. -/
structure Good (l : List EvV) : Prop where
  len : l.length ≤ 200
  all : ∀ v ∈ l, v.right = true ∧ ∀ z ∈ v.nb, 0 ≤ z ∧ z ≤ 255
theorem EvV.lay_len {v : EvV} (h : v.right = true) : v.lay.length ≤ 1000 := evGB_len h
theorem manyB_app (l m : List EvV) : manyB (l ++ m) = manyB l ++ manyB m := by
  induction l with
  | nil => rfl
  | cons v l ih => simp [manyB, ih]
theorem manyB_len {l : List EvV} (h : ∀ v ∈ l, v.right = true) : (manyB l).length ≤ l.length * 1002 := by
  induction l with
  | nil => simp [manyB]
  | cons v l ih =>
    have h1 := EvV.lay_len (h v List.mem_cons_self)
    have h2 := ih (fun u hu => h u (List.mem_cons_of_mem _ hu))
    simp only [manyB, List.length_append, List.length_cons, shortB_len]
    omega
theorem allB_len {l : List EvV} (h : Good l) : (allB l).length ≤ 200402 := by
  have h1 := manyB_len (fun v hv => (h.all v hv).1)
  have h2 := h.len
  simp only [allB, List.length_append, be_length]
  omega
/-- What is taken at the beginning. -/
theorem allB_num {l : List EvV} (h : Good l) : numR false (allB l) 2 = ((l.length : Int), false, manyB l) := by
  have := h.len
  exact rd_num2 _ (by omega) (by omega) _
/-- What is taken in a round. -/
theorem manyB_short {l : List EvV} (h : Good l) (k : Nat) (hk : k < l.length) : shortR false (manyB (l.drop k)) = (l[k].lay, false, manyB (l.drop (k + 1))) := by
  rw [List.drop_eq_getElem_cons hk]
  exact shortR_app _ _ (by have := EvV.lay_len (h.all _ (List.getElem_mem hk)).1; omega)
/-- Lists that are laid alike are the same. -/
theorem manyB_inj : ∀ {l m : List EvV}, l.length = m.length → (∀ v ∈ l, v.right = true ∧ ∀ z ∈ v.nb, 0 ≤ z ∧ z ≤ 255) → (∀ v ∈ m, v.right = true ∧ ∀ z ∈ v.nb, 0 ≤ z ∧ z ≤ 255) → manyB l = manyB m → l = m
  | [], [], _, _, _, _ => rfl
  | [], _ :: _, h, _, _, _ => by cases h
  | _ :: _, [], h, _, _, _ => by cases h
  | v :: l, u :: m, h, h1, h2, e => by
    have a1 := h1 v List.mem_cons_self
    have a2 := h2 u List.mem_cons_self
    have e1 : shortR false (manyB (v :: l)) = (v.lay, false, manyB l) := shortR_app _ _ (by have := EvV.lay_len a1.1; omega)
    have e2 : shortR false (manyB (u :: m)) = (u.lay, false, manyB m) := shortR_app _ _ (by have := EvV.lay_len a2.1; omega)
    rw [e, e2] at e1
    simp only [Prod.mk.injEq, true_and] at e1
    rw [lay_inj a1.1 a1.2 a2.1 a2.2 e1.1.symm, manyB_inj (by simpa using h) (fun x hx => h1 x (List.mem_cons_of_mem _ hx)) (fun x hx => h2 x (List.mem_cons_of_mem _ hx)) e1.2.symm]
theorem allB_inj {l m : List EvV} (h : Good l) (h' : Good m) (e : allB l = allB m) : l = m := by
  have e1 := allB_num h
  rw [e, allB_num h'] at e1
  simp only [Prod.mk.injEq, true_and] at e1
  exact manyB_inj (by omega) h.all h'.all e1.2.symm
theorem manyB_byt {l : List EvV} (h : ∀ v ∈ l, ∀ z ∈ v.lay, 0 ≤ z ∧ z ≤ 255) : ∀ z ∈ manyB l, 0 ≤ z ∧ z ≤ 255 := by
  induction l with
  | nil => intro z hz; cases hz
  | cons v l ih => exact byt_app (shortB_byt (h v List.mem_cons_self)) (ih (fun u hu => h u (List.mem_cons_of_mem _ hu)))
theorem allB_byt {l : List EvV} (h : ∀ v ∈ l, ∀ z ∈ v.lay, 0 ≤ z ∧ z ≤ 255) : ∀ z ∈ allB l, 0 ≤ z ∧ z ≤ 255 := byt_app (be_byt _ _) (manyB_byt h)

/-! ### A list in memory that is right. -/
def GoodF (l : List EvF) : Prop := l.length ≤ 200 ∧ ∀ f ∈ l, f.right = true
theorem GoodF.v {l : List EvF} (h : GoodF l) : Good (l.map EvF.v) := ⟨by simpa using h.1, fun v hv => by
  obtain ⟨f, hf, rfl⟩ := List.mem_map.1 hv
  exact ⟨by rw [f.right_v]; exact h.2 f hf, strB_byt _⟩⟩
def laidF (l : List EvF) : List Int := allB (l.map EvF.v)
theorem laidF_len {l : List EvF} (h : GoodF l) : (laidF l).length ≤ 200402 := allB_len h.v
theorem laidF_byt {l : List EvF} (h : ∀ f ∈ l, ∀ z ∈ f.bs, 0 ≤ z ∧ z ≤ 255) : ∀ z ∈ laidF l, 0 ≤ z ∧ z ≤ 255 := allB_byt fun v hv => by
  obtain ⟨f, hf, rfl⟩ := List.mem_map.1 hv
  rw [f.lay_v]
  exact f.lay_byt (h f hf)
theorem manyB_snoc (l : List EvF) (j : Nat) (hj : j < l.length) : manyB ((l.take (j + 1)).map EvF.v) = manyB ((l.take j).map EvF.v) ++ shortB l[j].lay := by
  rw [List.take_add_one, List.getElem?_eq_getElem hj, List.map_append, manyB_app]
  simp [manyB, EvF.lay_v]

/-! ### Lines. -/
/-- Up to place j it is a line. -/
def LineTo (l : List EvF) (j : Nat) : Prop := ∀ i (h : i < l.length), i < j → l[i].right = true ∧ ∀ (h0 : 0 < i), l[i].id = l[i - 1].id + 1 ∧ l[i - 1].ver ≤ l[i].ver ∧ l[i - 1].tm ≤ l[i].tm
def IsLine (l : List EvF) : Prop := LineTo l l.length
theorem LineTo.zero (l : List EvF) : LineTo l 0 := fun i _ h => absurd h (by omega)
theorem LineTo.succ {l : List EvF} {j : Nat} (h : LineTo l j) (hj : j < l.length) (h1 : l[j].right = true) (h2 : ∀ (h0 : 0 < j), l[j].id = l[j - 1].id + 1 ∧ l[j - 1].ver ≤ l[j].ver ∧ l[j - 1].tm ≤ l[j].tm) : LineTo l (j + 1) := fun i hi hij => by
  by_cases e : i = j
  · subst e; exact ⟨h1, h2⟩
  · exact h i hi (by omega)
/-- A chain's places. -/
theorem Chain.at {l : List EvF} : ∀ {a b : Int × Int × Int}, Chain a l b → ∀ i (h : i < l.length), l[i].right = true ∧ l[i].id = a.1 + 1 + i ∧ a.2.1 ≤ l[i].ver ∧ a.2.2 ≤ l[i].tm ∧ ∀ (h0 : 0 < i), l[i - 1].ver ≤ l[i].ver ∧ l[i - 1].tm ≤ l[i].tm := by
  induction l with
  | nil => intro a b _ i h; simp at h
  | cons x l ih =>
    intro a b h i hi
    cases i with
    | zero => exact ⟨h.1.1, by simp [h.1.2.1], h.1.2.2.1, h.1.2.2.2, fun h0 => absurd h0 (by omega)⟩
    | succ i =>
      have hi' : i < l.length := by simpa using hi
      obtain ⟨a1, a2, a3, a4, a5⟩ := ih h.2 i hi'
      have b1 := h.1.2.1
      have b2 := h.1.2.2.1
      have b3 := h.1.2.2.2
      simp only at a2 a3 a4
      refine ⟨by simpa using a1, by simp only [List.getElem_cons_succ]; omega, by simp only [List.getElem_cons_succ]; omega, by simp only [List.getElem_cons_succ]; omega, fun _ => ?_⟩
      cases i with
      | zero => exact ⟨by simpa using a3, by simpa using a4⟩
      | succ i => simpa using a5 (by omega)
theorem Chain.line {l : List EvF} {a b : Int × Int × Int} (h : Chain a l b) (c d : Nat) : IsLine ((l.take d).drop c) := fun i hi _ => by
  have hl : c + i < l.length ∧ c + i < d := by
    simp only [List.length_drop, List.length_take] at hi
    omega
  obtain ⟨a1, a2, a3, a4, a5⟩ := h.at (c + i) hl.1
  simp only [List.getElem_drop, List.getElem_take]
  refine ⟨a1, fun h0 => ?_⟩
  obtain ⟨_, b2, _⟩ := h.at (c + (i - 1)) (by omega)
  obtain ⟨c1, c2⟩ := a5 (by omega)
  have e : c + i - 1 = c + (i - 1) := by omega
  simp only [e] at c1 c2
  exact ⟨by omega, c1, c2⟩
theorem Chain.isLine {l : List EvF} {a b : Int × Int × Int} (h : Chain a l b) : IsLine l := by
  have := h.line 0 l.length
  simpa using this
theorem Chain.good {l : List EvF} {b : Int × Int × Int} (h : Chain (0, 0, 0) l b) : GoodF l := ⟨by
  have h1 := h.len
  have h2 := h.le200 (by decide)
  simp only at h1
  omega, h.all⟩
end Go.Proofs.YtngfimjbgopgjaaGreatDoor

/- Events in a row of the call's own. -/
namespace Go.Proofs.YtngfimjbgopgjaaGreatDoor
open Go.RowKit
set_option linter.unusedVariables false

/-! ### A row of events of the call's own. -/
/-- What an event holds lies in none of S. -/
structure EvOff (S : Nat → Prop) (f : EvF) : Prop where
  a : f.bs ≠ [] → Off S f.A
  d : f.dl ≠ [] → Off S f.D
  n : ∀ d ∈ f.dl, d.ns ≠ [] → Off S d.A
theorem EvOff.mono {S T : Nat → Prop} {f : EvF} (h : EvOff S f) (hT : ∀ x, T x → S x) : EvOff T f :=
  ⟨fun e x hx ht => h.a e x hx (hT x ht), fun e x hx ht => h.d e x hx (hT x ht), fun d hd e x hx ht => h.n d hd e x hx (hT x ht)⟩
theorem EvS.keep {S : Nat → Prop} {w w' : World} {f : EvF} (h : EvS w f) (hc : Chg S w w') (ho : EvOff S f) : EvS w' f :=
  ⟨⟨h.rdy.nm, h.rdy.bn, h.rdy.rd.keep' hc (fun e => ho.a (fun e' => e (by rw [e']; rfl))), h.rdy.ds.keep hc ho.d ho.n, h.rdy.dn, h.rdy.ns⟩, h.byt⟩
theorem dfC_ne {l : List Df} (h : l ≠ []) : dfC l ≠ [] := fun e => h (by
  have := dfC_len l
  rw [e] at this
  exact List.length_eq_zero_iff.1 (by simp only [List.length_nil] at this; omega))
/-- Where there is something there is a block. -/
theorem EvS.old {w : World} {f : EvF} (h : EvS w f) : EvOff (fun x => w.heap.size ≤ x) f :=
  ⟨fun e x hx hle => by have := h.rdy.rd.old (by simpa using e) x hx; omega, fun e x hx hle => by have := h.rdy.ds.rd.old (dfC_ne e) x hx; omega, fun d hd e x hx hle => by have := (h.rdy.ds.ns d hd).old (by simpa using e) x hx; omega⟩
structure OwnL (w0 w : World) (A : Option Addr) (c : Nat) (l : List EvF) : Prop where
  own : w.ownsRow w0.heap.size 32 9 (.slice A l.length c) l.length (eoC l)
  ev : ∀ f ∈ l, EvS w f
  ap : ∀ f ∈ l, EvOff (In A) f
  chg : Chg (fun _ => False) w0 w
theorem OwnL.still {w0 w w' : World} {A : Option Addr} {c : Nat} {l : List EvF} (h : OwnL w0 w A c l) (hc : Chg (fun _ => False) w w') : OwnL w0 w' A c l :=
  ⟨hc.ownS h.own (fun _ _ h => h), fun f hf => (h.ev f hf).still hc, h.ap, h.chg.trans hc (fun x hx => hx.elim)⟩
theorem OwnL.rd {w0 w : World} {A : Option Addr} {c : Nat} {l : List EvF} (h : OwnL w0 w A c l) : RdEv w A l := ⟨Rd.of_own h.own, h.ev⟩
theorem OwnL.app {w0 w w' : World} {A A' : Option Addr} {c c' : Nat} {l m : List EvF} (h : OwnL w0 w A c l) (hm : ∀ f ∈ m, EvS w f) (hy : ∀ f ∈ m, EvOff (In A) f)
    (hown : w'.ownsRow w0.heap.size 32 9 (.slice A' (l.length + m.length) c') (l.length + m.length) (eoC l ++ eoC m)) (hg : Chg (In A) w w') (hb : blk A' = blk A ∨ blk A' = some w.heap.size) : OwnL w0 w' A' c' (l ++ m) := by
  have hev : ∀ f ∈ l ++ m, EvS w f ∧ EvOff (In A) f := fun f hf => (List.mem_append.1 hf).elim (fun hf => ⟨h.ev f hf, h.ap f hf⟩) (fun hf => ⟨hm f hf, hy f hf⟩)
  refine ⟨by rw [List.length_append, eoC_app]; exact hown, fun f hf => (hev f hf).1.keep hg (hev f hf).2, fun f hf => ?_, h.chg.trans hg (fun x hx => .inr (own_lt h.own hx).1)⟩
  obtain ⟨h1, h2⟩ := hev f hf
  rcases hb with hb | hb
  · exact h2.mono (fun x (hx : blk A' = some x) => (hb ▸ hx : blk A = some x))
  · exact h1.old.mono (fun x (hx : blk A' = some x) => by rw [hb] at hx; injection hx with hx; omega)
/-- One more. -/
theorem OwnL.snoc {w0 w w' : World} {A A' : Option Addr} {c c' : Nat} {l : List EvF} {f : EvF} (h : OwnL w0 w A c l) (hm : EvS w f) (hy : EvOff (In A) f)
    (hown : w'.ownsRow w0.heap.size 32 9 (.slice A' (l.length + 1) c') (l.length + 1) (eoC l ++ eoC [f])) (hg : Chg (In A) w w') (hb : blk A' = blk A ∨ blk A' = some w.heap.size) : OwnL w0 w' A' c' (l ++ [f]) :=
  h.app (m := [f]) (fun g hg' => by rw [List.mem_singleton.1 hg']; exact hm) (fun g hg' => by rw [List.mem_singleton.1 hg']; exact hy) hown hg hb

/-- Blocks that are none of it, and came later, have turned. -/
theorem OwnL.past {S : Nat → Prop} {w0 w w' : World} {A : Option Addr} {c : Nat} {l : List EvF} (h : OwnL w0 w A c l) (hc : Chg S w w') (hA : ∀ x, In A x → ¬ S x) (hf : ∀ f ∈ l, EvOff S f) (hS : ∀ x, S x → w0.heap.size ≤ x) : OwnL w0 w' A c l :=
  ⟨hc.ownS h.own hA, fun f hm => (h.ev f hm).keep hc (hf f hm), h.ap, h.chg.trans hc (fun x hx => .inr (hS x hx))⟩
theorem numR2_bd {lack : Bool} {xs : List Int} (h : ∀ x ∈ xs, 0 ≤ x ∧ x ≤ 255) : 0 ≤ (numR lack xs 2).1 ∧ (numR lack xs 2).1 ≤ 65535 := by
  have h1 := takeR_bytes (lack := lack) (k := ((2 : Nat) : Int)) h
  have h2 := takeR_len (lack := lack) (xs := xs) (k := ((2 : Nat) : Int))
  simp only [numR]
  obtain ⟨l, hl⟩ : ∃ l, l = (takeR lack xs ((2 : Nat) : Int)).1 := ⟨_, rfl⟩
  rw [← hl] at h1 h2 ⊢
  exact match l, h1, h2 with
  | [], _, _ => by have h : getV [] = 0 := rfl; rw [h]; simp [wrap64]
  | [x], h1, _ => by
    have h3 := h1 x List.mem_cons_self
    have h4 : getV [x] = x := by simp [getV, IntKind.wrap_u64]
    rw [h4]
    have h5 : wrap64 x = x := by simp only [wrap64]; omega
    rw [h5]
    omega
  | [x, y], h1, _ => by
    have h3 := h1 x List.mem_cons_self
    have h3' := h1 y (List.mem_cons_of_mem _ List.mem_cons_self)
    have h4 : getV [x, y] = x * 256 + y := by simp [getV, IntKind.wrap_u64]; omega
    rw [h4]
    have h5 : wrap64 (x * 256 + y) = x * 256 + y := by simp only [wrap64]; omega
    rw [h5]
    omega
  | x :: y :: z :: l, _, h2 => by simp at h2; omega
/-- What Read gives of bytes: an event that is laid so, its data new; or none is laid so. -/
def ReadE (w : World) (xs : List Int) (e : Ending) (w' : World) : Prop :=
  ((∃ z : EvF, e = .returned (.tuple #[z.val, .int .i64 0]) ∧ EvS w' z ∧ z.right = true ∧ z.lay = xs ∧ EvOff (fun x => x < w.heap.size) z) ∨
    (e = .returned (.tuple #[.agg #[.int .i64 0, .int .i64 0, .int .i64 0, .int .i64 0, .int .i64 0, .int .i64 0, .string { data := #[] }, .slice none 0 0, .slice none 0 0], .int .i64 5]) ∧ ¬ ∃ v : EvV, v.right = true ∧ (∀ z ∈ v.nb, 0 ≤ z ∧ z ≤ 255) ∧ v.lay = xs)) ∧ Chg (fun _ => False) w w'
theorem shortR_rest2 {lack : Bool} {xs : List Int} : ∀ x ∈ (shortR lack xs).2.2, x ∈ xs := fun x hx => by
  unfold shortR at hx
  exact numR_rest.2 x (takeR_rest.2 x hx)
theorem readV_bs2 (xs : List Int) (h : ∀ x ∈ xs, 0 ≤ x ∧ x ≤ 255) : ∀ z ∈ (readV xs).bs, 0 ≤ z ∧ z ≤ 255 :=
  shortR_bytes (fun x hx => h x (numR_rest.2 x (numR_rest.2 x (numR_rest.2 x (numR_rest.2 x (numR_rest.2 x (numR_rest.2 x (shortR_rest2 x hx))))))))
theorem ReadGaveY.ev {w : World} {xs : List Int} {e : Ending} {w' : World} (h : ReadGaveY w xs (readV xs) e w') (hby : ∀ x ∈ xs, 0 ≤ x ∧ x ≤ 255) : ReadE w xs e w' := by
  obtain ⟨h1, hc⟩ := h
  refine ⟨?_, hc⟩
  rcases h1 with ⟨hr, hl, A', c', D, dc, dl, he, k1, k2, k3, k4⟩ | ⟨hno, he⟩
  · refine .inl ⟨⟨(readV xs).id, (readV xs).ver, (readV xs).tm, (readV xs).ty, (readV xs).node, (readV xs).m, strOfNums (readV xs).nb, A', c', (readV xs).bs, D, dc, dl⟩, he, ⟨read_rdy hr k1 k2 k3, readV_bs2 xs hby⟩, ?_, ?_, ⟨fun e x hx hs => ?_, fun e x hx hs => ?_, fun d hd e x hx hs => ?_⟩⟩
    · rw [EvV.right] at hr; simp only [EvF.right, k3]; exact hr
    · rw [EvV.lay] at hl; simp only [EvF.lay, k3]; exact hl
    · have := k4.a e x hx; omega
    · have := k4.d e x hx; omega
    · have := k4.n d hd e x hx; omega
  · refine .inr ⟨he, fun ⟨v, h1, h2, h3⟩ => hno ?_⟩
    rw [← h3, readV_lay h1 h2]
    exact ⟨h1, rfl⟩
theorem readE_any (B : Option Addr) (n d : Nat) (xs : List Int) (w : World) (h : Rd w B (xs.map (Value.int .u8))) (hn : xs.length = n) (hn2 : n ≤ 140737488355328) (hby : ∀ x ∈ xs, 0 ≤ x ∧ x ≤ 255) :
    Calls Tryz.prog 30 #[.slice B n d] w (ReadE w xs) :=
  (readY_any B n d xs w h hn hn2 hby).mono fun e w' h => h.ev hby
theorem ReadE.yes {w : World} {xs : List Int} {e : Ending} {w' : World} (h : ReadE w xs e w') (hv : ∃ v : EvV, v.right = true ∧ (∀ z ∈ v.nb, 0 ≤ z ∧ z ≤ 255) ∧ v.lay = xs) :
    (∃ z : EvF, e = .returned (.tuple #[z.val, .int .i64 0]) ∧ EvS w' z ∧ z.right = true ∧ z.lay = xs ∧ EvOff (fun x => x < w.heap.size) z) ∧ Chg (fun _ => False) w w' := by
  obtain ⟨h1, hc⟩ := h
  rcases h1 with h1 | h1
  · exact ⟨h1, hc⟩
  · exact absurd hv h1.2
theorem ReadE.no {w : World} {xs : List Int} {e : Ending} {w' : World} (h : ReadE w xs e w') (hv : ¬ ∃ v : EvV, v.right = true ∧ (∀ z ∈ v.nb, 0 ≤ z ∧ z ≤ 255) ∧ v.lay = xs) :
    e = .returned (.tuple #[.agg #[.int .i64 0, .int .i64 0, .int .i64 0, .int .i64 0, .int .i64 0, .int .i64 0, .string { data := #[] }, .slice none 0 0, .slice none 0 0], .int .i64 5]) ∧ Chg (fun _ => False) w w' := by
  obtain ⟨h1, hc⟩ := h
  rcases h1 with ⟨z, _, hz, h2, h3, _⟩ | h1
  · exact absurd ⟨z.v, by rw [z.right_v]; exact h2, strB_byt _, by rw [z.lay_v]; exact h3⟩ hv
  · exact ⟨h1.1, hc⟩

/-! ### Reading a list: what is known of whatever list is laid so. -/
/-- Behind k events, N of them told: l was read, the reader stands at (lk, ys). -/
structure AllSo (xs : List Int) (N k : Nat) (l : List EvF) (lk : Bool) (ys : List Int) (vs : List EvV) : Prop where
  num : vs.length = N
  le : k ≤ N
  was : l.map EvF.v = vs.take k
  lack : lk = false
  rest : ys = manyB (vs.drop k)
def AllHyp (xs : List Int) (N k : Nat) (l : List EvF) (lk : Bool) (ys : List Int) : Prop := ∀ vs, Good vs → allB vs = xs → AllSo xs N k l lk ys vs
theorem AllHyp.start {xs : List Int} {N : Nat} {lk : Bool} {ys : List Int} (h : numR false xs 2 = ((N : Int), lk, ys)) : AllHyp xs N 0 [] lk ys := fun vs hg he => by
  have h1 := allB_num hg
  rw [he, h] at h1
  simp only [Prod.mk.injEq] at h1
  exact ⟨by omega, Nat.zero_le _, by simp, h1.2.1, by simpa using h1.2.2⟩
theorem AllHyp.take {xs : List Int} {N k : Nat} {l : List EvF} {ys zs : List Int} {lk' : Bool} {ys' : List Int} (h : AllHyp xs N k l false ys) (hk : k < N) (hs : shortR false ys = (zs, lk', ys')) :
    ∀ vs, Good vs → allB vs = xs → ∃ (hkv : k < vs.length), zs = vs[k].lay ∧ lk' = false ∧ ys' = manyB (vs.drop (k + 1)) := fun vs hg he => by
  have h1 := h vs hg he
  have hkv : k < vs.length := by rw [h1.num]; exact hk
  have h2 := manyB_short hg k hkv
  rw [← h1.rest, hs] at h2
  simp only [Prod.mk.injEq] at h2
  exact ⟨hkv, h2.1, h2.2.1, h2.2.2⟩
theorem AllHyp.next {xs : List Int} {N k : Nat} {l : List EvF} {ys zs : List Int} {lk' : Bool} {ys' : List Int} {z : EvF} (h : AllHyp xs N k l false ys) (hk : k < N) (hs : shortR false ys = (zs, lk', ys')) (hr : z.right = true) (hl : z.lay = zs) :
    AllHyp xs N (k + 1) (l ++ [z]) lk' ys' := fun vs hg he => by
  obtain ⟨hkv, h1, h2, h3⟩ := h.take hk hs vs hg he
  have h4 := h vs hg he
  have hv := hg.all _ (List.getElem_mem hkv)
  have e : z.v = vs[k] := lay_inj (by rw [z.right_v]; exact hr) (strB_byt _) hv.1 hv.2 (by rw [z.lay_v, hl, h1])
  refine ⟨h4.num, hk, ?_, h2, h3⟩
  rw [List.map_append, h4.was, List.take_add_one, List.getElem?_eq_getElem hkv]
  simp [e]
theorem AllHyp.none {xs : List Int} {N k : Nat} {l : List EvF} {ys zs : List Int} {lk' : Bool} {ys' : List Int} (h : AllHyp xs N k l false ys) (hk : k < N) (hs : shortR false ys = (zs, lk', ys')) (hno : ¬ ∃ v : EvV, v.right = true ∧ (∀ z ∈ v.nb, 0 ≤ z ∧ z ≤ 255) ∧ v.lay = zs) :
    ¬ ∃ vs, Good vs ∧ allB vs = xs := fun ⟨vs, hg, he⟩ => by
  obtain ⟨hkv, h1, _⟩ := h.take hk hs vs hg he
  have hv := hg.all _ (List.getElem_mem hkv)
  exact hno ⟨vs[k], hv.1, hv.2, h1.symm⟩
theorem AllHyp.lacks {xs : List Int} {N k : Nat} {l : List EvF} {ys : List Int} (h : AllHyp xs N k l true ys) : ¬ ∃ vs, Good vs ∧ allB vs = xs := fun ⟨vs, hg, he⟩ => Bool.noConfusion (h vs hg he).lack
/-- Behind the last one. -/
theorem AllHyp.done {xs : List Int} {N k : Nat} {l : List EvF} {lk : Bool} {ys : List Int} (h : AllHyp xs N k l lk ys) (hk : ¬ (k < N ∧ lk = false)) : ∀ vs, Good vs → allB vs = xs → l.map EvF.v = vs := fun vs hg he => by
  have h1 := h vs hg he
  have h2 : k = N := by
    have := h1.le
    have h3 := h1.lack
    have : ¬ k < N := fun hkn => hk ⟨hkn, h3⟩
    omega
  rw [h1.was, h2, ← h1.num, List.take_length]
theorem AllHyp.bad {xs : List Int} {N k : Nat} {l : List EvF} {lk : Bool} {ys : List Int} (h : AllHyp xs N k l lk ys) (hk : ¬ (k < N ∧ lk = false)) (hb : ¬ (GoodF l ∧ laidF l = xs)) : ¬ ∃ vs, Good vs ∧ allB vs = xs := fun ⟨vs, hg, he⟩ => by
  have h1 := h.done hk vs hg he
  refine hb ⟨⟨?_, fun f hf => ?_⟩, ?_⟩
  · have := hg.len
    rw [← h1, List.length_map] at this
    exact this
  · rw [← f.right_v]
    exact (hg.all f.v (by rw [← h1]; exact List.mem_map_of_mem hf)).1
  · rw [laidF, h1, he]
/-- What ReadAll gives. -/
def ReadAllGave (w : World) (xs : List Int) (e : Ending) (w' : World) : Prop :=
  ((∃ (A : Option Addr) (c : Nat) (l : List EvF), e = .returned (.tuple #[.slice A l.length c, .int .i64 0]) ∧ RdEv w' A l ∧ GoodF l ∧ laidF l = xs) ∨
    (e = .returned (.tuple #[.slice none 0 0, .int .i64 5]) ∧ ¬ ∃ vs, Good vs ∧ allB vs = xs)) ∧ Chg (fun _ => False) w w'
/-- What LayAll gives. -/
def LaidAll (w : World) (l : List EvF) (e : Ending) (w' : World) : Prop :=
  ((GoodF l ∧ ∃ (A : Option Addr) (c : Nat), e = .returned (.tuple #[.slice A (laidF l).length c, .int .i64 0]) ∧ (laidF l).length ≤ c ∧ Rd w' A ((laidF l).map (Value.int .u8)) ∧ ∀ x, blk A = some x → w.heap.size ≤ x ∧ x < w'.heap.size) ∨
    (¬ GoodF l ∧ e = .returned (.tuple #[.slice none 0 0, .int .i64 1]))) ∧ Chg (fun _ => False) w w'
theorem LaidAll.no {w w' : World} {l : List EvF} (h : ¬ GoodF l) (hc : Chg (fun _ => False) w w') : LaidAll w l (.returned (.tuple #[.slice none 0 0, .int .i64 1])) w' := ⟨.inr ⟨h, rfl⟩, hc⟩
theorem LaidAll.good {w w' : World} {l : List EvF} {e : Ending} (h : LaidAll w l e w') (hg : GoodF l) : (∃ (A : Option Addr) (c : Nat), e = .returned (.tuple #[.slice A (laidF l).length c, .int .i64 0]) ∧ (laidF l).length ≤ c ∧ Rd w' A ((laidF l).map (Value.int .u8)) ∧ ∀ x, blk A = some x → w.heap.size ≤ x ∧ x < w'.heap.size) ∧ Chg (fun _ => False) w w' := by
  obtain ⟨h1, hc⟩ := h
  rcases h1 with h1 | h1
  · exact ⟨h1.2, hc⟩
  · exact absurd hg h1.1
theorem LaidAll.bad {w w' : World} {l : List EvF} {e : Ending} (h : LaidAll w l e w') (hg : ¬ GoodF l) : e = .returned (.tuple #[.slice none 0 0, .int .i64 1]) ∧ Chg (fun _ => False) w w' := by
  obtain ⟨h1, hc⟩ := h
  rcases h1 with h1 | h1
  · exact absurd h1.1 hg
  · exact ⟨h1.2, hc⟩
theorem own_cap2 {base : Nat} {e : TypeId} {size n c : Nat} {A : Option Addr} {xs : List Value} {w : World} (h : w.ownsRow base e size (.slice A n c) n xs) : n ≤ c := by
  rcases h.2 with ⟨h0, h1⟩ | ⟨g9, cap9, cur9, hv9, _, _, hl9, _⟩
  · omega
  · injection hv9 with _ _ h9; omega
end Go.Proofs.YtngfimjbgopgjaaGreatDoor
