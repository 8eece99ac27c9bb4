/- What is read of an event's bytes, as a function; bounds; slices.Equal where one side is short. -/
import Derived.Test.YtngfimjbgopgjaaGreatDoorEvDefR
namespace Go.Proofs.YtngfimjbgopgjaaGreatDoor
open Go.RowKit
set_option linter.unusedVariables false

/-- What is read of Defs, of an event. -/
def defsR : Nat → Bool × List Int → List (List Int × Int × Int) × Bool × List Int
  | 0, st => ([], st)
  | n + 1, st => if st.1 = true then ([], st) else ((defR st).1 :: (defsR n (defR st).2).1, (defsR n (defR st).2).2)
theorem defsR_lack (n : Nat) (ys : List Int) : defsR n (true, ys) = ([], true, ys) := by cases n <;> rfl
structure EvV where
  id : Int
  ver : Int
  tm : Int
  ty : Int
  node : Int
  m : Int
  nb : List Int
  bs : List Int
  dv : List (List Int × Int × Int)
def readV (xs : List Int) : EvV :=
  let a := numR false xs 2
  let b := numR a.2.1 a.2.2 8
  let c := numR b.2.1 b.2.2 8
  let d := numR c.2.1 c.2.2 1
  let e := numR d.2.1 d.2.2 1
  let f := numR e.2.1 e.2.2 8
  let g := shortR f.2.1 f.2.2
  let h := shortR g.2.1 g.2.2
  let i := numR h.2.1 h.2.2 1
  ⟨a.1, b.1, c.1, d.1, e.1, f.1, g.1, h.1, (defsR i.1.toNat i.2).1⟩
def EvV.right (v : EvV) : Bool := rightEB v.id v.ver v.tm v.ty v.node v.m (strOfNums v.nb) v.bs.length v.dv
def EvV.lay (v : EvV) : List Int := evGB v.id v.ver v.tm v.ty v.node v.m (strOfNums v.nb) v.bs v.dv

theorem takeR_le {lack : Bool} {xs : List Int} {k : Int} : (takeR lack xs k).1.length ≤ xs.length := by
  unfold takeR
  split
  · simp
  · simp only [List.length_take]; omega
theorem takeR_rest {lack : Bool} {xs : List Int} {k : Int} : (takeR lack xs k).2.2.length ≤ xs.length ∧ ∀ x ∈ (takeR lack xs k).2.2, x ∈ xs := by
  unfold takeR
  split
  · exact ⟨by simp, fun x hx => by cases hx⟩
  · exact ⟨by simp only [List.length_drop]; omega, fun x hx => List.mem_of_mem_drop hx⟩
theorem numR_rest {lack : Bool} {xs : List Int} {k : Nat} : (numR lack xs k).2.2.length ≤ xs.length ∧ ∀ x ∈ (numR lack xs k).2.2, x ∈ xs := takeR_rest
theorem shortR_le {lack : Bool} {xs : List Int} : (shortR lack xs).1.length ≤ xs.length := Nat.le_trans takeR_le numR_rest.1
theorem needsR_len : ∀ (n : Nat) (st : Bool × List Int), (needsR n st).1.length ≤ n
  | 0, _ => Nat.le_refl _
  | n + 1, st => by
    simp only [needsR]
    split
    · simp
    · have := needsR_len n (numR st.1 st.2 1).2
      simp only [List.length_cons]
      omega
theorem defR_len {st : Bool × List Int} (h : ∀ x ∈ st.2, 0 ≤ x ∧ x ≤ 255) : (defR st).1.1.length ≤ 255 := by
  simp only [defR]
  have h1 := needsR_len (numR (numR (numR st.1 st.2 1).2.1 (numR st.1 st.2 1).2.2 8).2.1 (numR (numR st.1 st.2 1).2.1 (numR st.1 st.2 1).2.2 8).2.2 1).1.toNat (numR (numR (numR st.1 st.2 1).2.1 (numR st.1 st.2 1).2.2 8).2.1 (numR (numR st.1 st.2 1).2.1 (numR st.1 st.2 1).2.2 8).2.2 1).2
  have h2 := (numR1_bd (lack := (numR (numR st.1 st.2 1).2.1 (numR st.1 st.2 1).2.2 8).2.1) (xs := (numR (numR st.1 st.2 1).2.1 (numR st.1 st.2 1).2.2 8).2.2) (fun x hx => h x (numR_rest.2 x (numR_rest.2 x hx)))).2
  omega
theorem evGB_len {id ver tm ty node m : Int} {nm : ByteArray} {bs : List Int} {dl : List (List Int × Int × Int)} (h : rightEB id ver tm ty node m nm bs.length dl = true) : (evGB id ver tm ty node m nm bs dl).length ≤ 1000 := by
  obtain ⟨h1, h2, h3, h4⟩ := rightEB_short h
  have h5 := defsBy_len dl h4
  simp only [evGB, List.length_append, be_length, shortB_len, strB_length, List.length_nil]
  omega

set_option maxHeartbeats 1000000 in
theorem equalB_short (A B : Option Addr) (n m c d : Nat) (l l' : List Int) (w : World) (ha : Rd w A (l.map (Value.int .u8))) (hb : Rd w B (l'.map (Value.int .u8))) (hn : l.length = n) (hm : l'.length = m) (hn2 : n ≤ 1048576) :
    Calls Tryz.prog 37 #[.slice A n c, .slice B m d] w fun e w' => e = .returned (.bool (decide (l = l'))) ∧ Chg (fun _ => False) w w' := by
  by_cases hlen : n = m
  · exact equalB_any A B n m c d l l' w ha hb hn hm hn2 (by omega)
  · have hne : l ≠ l' := fun e => hlen (by rw [← hn, ← hm, e])
    rw [decide_eq_false hne]
    have hd : decide (n = m) = false := by simpa using hlen
    have hd2 : ((n : Int) != (m : Int)) = true := by simp; omega
    have hd3 : ((n : Int) == (m : Int)) = false := by simp; omega
    go_enter Tryz.func37, Tryz.ntmps37
    go_wp2_with fail
    go_ret
    exact ⟨rfl, Chg.refl _ _⟩
theorem defInfo : (Tryz.prog.info? 85).map (fun i => (i.zero, i.size, i.bytes)) = some (some (.agg #[.slice none 0 0, .int .i64 0, .int .i64 0]), 3, 40) := by kernel_rfl
end Go.Proofs.YtngfimjbgopgjaaGreatDoor
