/- The contract of cutoverlaw1.known: chapter 1's example; and of the closed statement OctetKnown. -/
import Derived.Test.YtngfimjbgopgjaaRd
import Derived.Deep.OwnRows
namespace Go.Proofs.Ytngfimjbgopgjaa
open Go.RowKit
set_option linter.unusedVariables false

/-- A call that answers true, and turns nothing that was there. -/
def SaysTrue (w : World) (e : Ending) (w' : World) : Prop := e = .returned (.bool true) ∧ Chg (fun _ => False) w w'

/-- A writer of the call's own. -/
theorem Wrote.own {T : TypeId} {w0 w w' : World} {p : Nat} {A : Option Addr} {bs : List Int} (hw : Wrote T w w' p A bs) (hc : Chg (fun _ => False) w0 w) (hp : w0.heap.size ≤ p) (hA : ∀ x, blk A = some x → w0.heap.size ≤ x) :
    ∃ A' c', WAt T w' p A' c' bs ∧ Chg (fun _ => False) w0 w' ∧ ∀ x, blk A' = some x → w0.heap.size ≤ x := by
  obtain ⟨A', c', h, hc2, hb⟩ := hw
  refine ⟨A', c', h, hc.trans hc2 ?_, ?_⟩
  · rintro x (rfl | hx)
    · exact .inr hp
    · exact .inr (hA x hx)
  · intro x hx
    rcases hb with e | ⟨g, e, hg⟩
    · exact hA x (by rw [← e]; exact hx)
    · rw [e] at hx; cases hx; exact Nat.le_trans hc.size hg

theorem kb : be (IntKind.u64.wrap 258) 2 = [1, 2] := by simp [be, IntKind.wrap_u64]
theorem ks : shortB (strB { data := #[97, 98] }) = [0, 2, 97, 98] := by decide
theorem kn : strOfNums [1, 2, 0, 2, 97, 98] = { data := #[1, 2, 0, 2, 97, 98] } := by decide

set_option maxHeartbeats 1000000 in
set_option maxRecDepth 20000 in
theorem known1_any (w : World) : Calls Try.prog 28 #[] w (SaysTrue w) := by
  go_enter Try.func28, Try.ntmps28
  go_wp2_with fail
  refine (newW_any w).mono ?_
  rintro e w1 ⟨p, rfl, hp, h1, hc1⟩
  go_wp2_with fail
  refine (u16_any p none 0 [] 258 w1 h1 (by simp)).mono ?_
  rintro e w2 ⟨rfl, hw2⟩
  obtain ⟨A2, c2, h2, hc2, hA2⟩ := hw2.own hc1 hp (fun x hx => by cases hx)
  clear hw2 h1 hc1
  go_wp2_with fail
  refine (text_yes p A2 c2 _ _ w2 h2 (by decide) (by rw [kb]; decide)).mono ?_
  rintro e w3 ⟨rfl, hw3⟩
  obtain ⟨A3, c3, h3, hc3, hA3⟩ := hw3.own hc2 hp hA2
  clear hw3 h2 hc2
  rw [kb, ks] at h3
  have h3 : WAt 106 w3 p A3 c3 [1, 2, 0, 2, 97, 98] := h3
  go_wp2_with fail
  refine (bytes_any p A3 c3 _ w3 h3 (by decide)).mono ?_
  rintro e w4 ⟨A4, c4, rfl, ho4, hc4⟩
  have hcv := run_convert_rd (P := Try.prog) w4 34 9 5 Try.underlying34 Try.underlying5 Try.underlying9 A4 6 c4 [1, 2, 0, 2, 97, 98] rfl (Rd.of_own ho4)
  rw [kn] at hcv
  go_wp2_with fail
  go_ret
  exact ⟨rfl, hc3.trans hc4 (fun x hx => hx.elim)⟩

/-- The world behind 'make([]byte, n)'. -/
def madeW (w : World) (n : Nat) : World := w.alloc (.cells (madeCells #[.int .u8 0] n) 5)
theorem run_madeW (w : World) (n : Nat) (hn : n ≤ 65536) : (Instr.makeSlice 34 (.int .i64 (n : Int)) (.int .i64 (n : Int))).run Try.prog w = .ok (.slice (some ⟨w.heap.size, 0, none⟩) n n) (madeW w n) :=
  run_make_row' 34 5 (.int .u8 0) 1 Try.underlying34 byteInfo rfl .i64 .i64 n (by omega) (by omega) w
theorem Chg.ofMade (w : World) (n : Nat) (S : Nat → Prop) : Chg S w (madeW w n) := (Chg.refl _ w).alloc _
theorem Rd.ofMade (w : World) (n : Nat) : Rd (madeW w n) (some ⟨w.heap.size, 0, none⟩) ((List.replicate n (0 : Int)).map (Value.int .u8)) := by
  refine .inr ⟨w.heap.size, 0, rfl, fun j u hj => ?_⟩
  have h1 : (madeW w n).heap[w.heap.size]? = some (.cells (madeCells #[.int .u8 0] n) 5) := heap_alloc_new w _
  rw [cell_of_row _ _ _ _ _ _ h1]
  have hlt : j < n := by
    have := (List.getElem?_eq_some_iff.1 hj).1
    simpa using this
  rw [List.getElem?_map, List.getElem?_replicate, if_pos hlt] at hj
  rw [← hj]
  simp [madeCells, hlt, Nat.mod_one]

def knownR : List Int := [255, 255, 255, 255, 255, 255, 255, 254, 0, 1, 97, 9]
theorem kr1 : numR false knownR 8 = (-2, false, [0, 1, 97, 9]) := by decide +kernel
theorem kr2 : shortR false [0, 1, 97, 9] = ([97], false, [9]) := by decide +kernel
theorem kr3 : numR false [9] 2 = (0, true, []) := by decide +kernel
theorem kr4 : strOfNums [97] = { data := #[97] } := by decide
theorem knownR_byt : ∀ x ∈ knownR, 0 ≤ x ∧ x ≤ 255 := by decide

set_option maxHeartbeats 4000000 in
set_option maxRecDepth 20000 in
theorem octetKnown_any (w : World) : Calls Try.prog 9 #[] w (SaysTrue w) := by
  have hm1 := fun w => run_madeW w 65536 (by omega)
  have hm2 := fun w => run_madeW w 65535 (by omega)
  rw [show ((65536 : Nat) : Int) = 65536 from rfl] at hm1
  rw [show ((65535 : Nat) : Int) = 65535 from rfl] at hm2
  go_enter Try.func9, Try.ntmps9
  go_wp2_with fail
  refine (newR_any _ 12 12 knownR _ (Rd.newRow w 5 _ _ rfl) rfl (by decide) knownR_byt).mono ?_
  rintro e w1 ⟨p, A1, c1, rfl, h1, hA1, hp, hc1⟩
  have hF : ∀ x, wFoot p A1 x → w.heap.size ≤ x ∧ x < w1.heap.size := by
    rintro x (rfl | hx)
    · exact ⟨by simp at hp; omega, h1.lt⟩
    · exact ⟨by have := hA1 x hx; simp at this; omega, h1.foot x hx⟩
  replace hc1 := ((Chg.refl (fun _ => False) w).alloc _).trans hc1 (fun x hx => hx.elim)
  clear hp hA1
  go_wp2_with fail
  refine (newW_any w1).mono ?_
  rintro e w2 ⟨q, rfl, hq, g2, hc2⟩
  replace h1 := h1.keep hc2 (fun h => h) (fun _ _ h => h)
  have T2 : Two w w2 (wFoot p A1) (wFoot q none) := Two.come hc1 hF hc2 (by
    rintro x (rfl | hx)
    · exact ⟨hq, g2.lt⟩
    · cases hx)
  clear hc1 hF hc2 hq
  go_wp2_with fail
  refine (known1_any w2).mono ?_
  rintro e w3 ⟨rfl, hc3⟩
  replace h1 := h1.keep hc3 (fun h => h) (fun _ _ h => h)
  replace g2 := g2.keep hc3 (fun h => h) (fun _ _ h => h)
  replace T2 := T2.still hc3
  clear hc3
  go_wp2_with fail
  refine (gu64_any p A1 c1 _ _ w3 h1).mono ?_
  rw [kr1]
  rintro e w4 ⟨rfl, hst⟩
  obtain ⟨A4, c4, h4, hc4, hf4, hl4⟩ := hst.step (fun x hx => (T2.fl x hx).2)
  replace g2 := g2.apart hc4 T2.ap'
  replace T2 := T2.left hc4 hf4 hl4
  clear hst hc4 hf4 hl4 h1
  go_wp2_with fail
  refine (gtext_any p A4 c4 _ _ w4 h4).mono ?_
  rw [kr2, kr4]
  rintro e w5 ⟨rfl, hst⟩
  obtain ⟨A5, c5, h5, hc5, hf5, hl5⟩ := hst.step (fun x hx => (T2.fl x hx).2)
  replace g2 := g2.apart hc5 T2.ap'
  replace T2 := T2.left hc5 hf5 hl5
  clear hst hc5 hf5 hl5 h4
  go_wp2_with fail
  refine (gu16_any p A5 c5 _ _ w5 h5).mono ?_
  rw [kr3]
  rintro e w6 ⟨rfl, hst⟩
  obtain ⟨A6, c6, h6, hc6, hf6, hl6⟩ := hst.step (fun x hx => (T2.fl x hx).2)
  replace g2 := g2.apart hc6 T2.ap'
  replace T2 := T2.left hc6 hf6 hl6
  clear hst hc6 hf6 hl6 h5
  go_wp2_with fail
  refine (lack_any p A6 c6 _ _ w6 h6).mono ?_
  rintro e w' ⟨rfl, rfl⟩
  go_wp2_with fail
  refine (left_any p A6 c6 _ _ w6 h6).mono ?_
  rintro e w' ⟨rfl, rfl⟩
  clear h6
  go_wp2_with fail
  have hk7 := Chg.ofMade w6 65536 (fun _ => False)
  replace g2 := g2.keep hk7 (fun h => h) (fun _ _ h => h)
  replace T2 := T2.still hk7
  clear hk7
  refine (short_no q none 0 [] _ _ 65536 _ g2 (by omega) (by omega)).mono ?_
  rintro e w' ⟨rfl, rfl⟩
  go_wp2_with fail
  refine (bytes_any q none 0 [] _ g2 (by simp)).mono ?_
  rintro e w7 ⟨A7, c7, rfl, -, hc7⟩
  replace g2 := g2.keep hc7 (fun h => h) (fun _ _ h => h)
  replace T2 := T2.still hc7
  clear hc7
  go_wp2_with fail
  have hk8 := Chg.ofMade w7 65535 (fun _ => False)
  replace g2 := g2.keep hk8 (fun h => h) (fun _ _ h => h)
  have hoff : Off (wFoot q none) (some ⟨w7.heap.size, 0, none⟩) := by
    intro x hx hf
    rw [show x = w7.heap.size by simpa using hx.symm] at hf
    exact Nat.lt_irrefl _ (T2.gl _ hf).2
  replace T2 := T2.still hk8
  clear hk8
  refine (short_yes q none 0 [] _ _ 65535 (List.replicate 65535 0) _ g2 (Rd.ofMade w7 65535) (fun _ => hoff) (List.length_replicate ..) (by omega) (by simp)).mono ?_
  rintro e w8 ⟨rfl, hw8⟩
  obtain ⟨A8, c8, h8, hc8, hf8, hl8⟩ := hw8.step
  replace T2 := T2.right hc8 hf8 hl8
  clear hw8 hc8 hf8 hl8 g2 hoff
  obtain ⟨cur, hcur⟩ : ∃ cur, cur = [] ++ shortB (List.replicate 65535 0) := ⟨_, rfl⟩
  have hcl : cur.length = 65537 := by rw [hcur, List.nil_append, shortB, List.length_append, be_length, List.length_replicate]
  rw [← hcur] at h8
  clear hcur
  go_wp2_with fail
  refine (bytes_any q A8 c8 cur _ h8 (by omega)).mono ?_
  rintro e w9 ⟨A9, c9, rfl, -, hc9⟩
  have hcl2 : ((cur.length : Int) == 65537) = true := by rw [hcl]; rfl
  clear hcl h8
  go_wp2_with fail
  go_ret
  exact ⟨rfl, T2.chg.trans hc9 (fun x hx => hx.elim)⟩
end Go.Proofs.Ytngfimjbgopgjaa
