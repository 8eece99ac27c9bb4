/- OctetSizes: the walk of cutoverlaw1.OctetSizes: it answers true, and turns nothing that was there. -/
import Derived.Test.YtngfimjbgopgjaaOctKnown
import Derived.Test.YtngfimjbgopgjaaOctLaw
import Derived.Test.YtngfimjbgopgjaaVer
import Derived.Deep.DeepMust
namespace Go.Proofs.Ytngfimjbgopgjaa.octetSizes
open Go.RowKit
set_option linter.unusedVariables false

/-! ### plain facts -/
theorem takeR_true (xs : List Int) (k : Int) : takeR true xs k = ([], true, []) := by simp [takeR]
theorem takeR_far (xs : List Int) (k : Int) (h : (xs.length : Int) < k) : takeR false xs k = ([], true, []) := by
  unfold takeR
  rw [if_pos (.inr (.inr h))]
theorem takeR_ok (xs : List Int) (k : Nat) (h : k ≤ xs.length) : takeR false xs k = (xs.take k, false, xs.drop k) := by
  unfold takeR
  rw [if_neg (by simp; omega)]
  simp
theorem numR_true (xs : List Int) (k : Nat) : (numR true xs k).2 = (true, []) := by simp [numR, takeR_true]
theorem shortR_true (xs : List Int) : (shortR true xs).2 = (true, []) := by simp [shortR, numR, takeR_true]
theorem numR_far (xs : List Int) (k : Nat) (h : xs.length < k) : (numR false xs k).2 = (true, []) := by simp [numR, takeR_far xs k (by omega)]
theorem numR_ok (xs : List Int) (k : Nat) (h : k ≤ xs.length) : (numR false xs k).2 = (false, xs.drop k) := by simp [numR, takeR_ok xs k h]
/-- A Short that is cut off lacks. -/
theorem shortR_cut (S : List Int) (q : Nat) (hS : S.length ≤ 60000) (hq : q < 2 + S.length) : (shortR false ((shortB S).take q)).2 = (true, []) := by
  by_cases h2 : q < 2
  · have h := numR_far ((shortB S).take q) 2 (by rw [List.length_take]; omega)
    simp only [shortR, h]
    rw [takeR_true]
  · have e : (shortB S).take q = be (S.length : Int) 2 ++ S.take (q - 2) := by
      rw [shortB, List.take_append, be_length, List.take_of_length_le (by rw [be_length]; omega)]
    have h1 : numR false ((shortB S).take q) 2 = ((S.length : Int), false, S.take (q - 2)) := by
      rw [e, numR_be _ (by omega) 2 (by omega)]
      have e2 : (256 : Int) ^ 2 = 65536 := by decide
      rw [e2, Int.emod_eq_of_lt (by omega) (by omega), IntWalk.wrap64_in _ ⟨by omega, by omega⟩]
    simp only [shortR, h1]
    rw [takeR_far _ _ (by rw [List.length_take]; omega)]
/-- What is cut off anywhere lacks behind the four reads. -/
def after (xs : List Int) : Bool × List Int :=
  (shortR (numR (numR (numR false xs 1).2.1 (numR false xs 1).2.2 2).2.1 (numR (numR false xs 1).2.1 (numR false xs 1).2.2 2).2.2 8).2.1
    (numR (numR (numR false xs 1).2.1 (numR false xs 1).2.2 2).2.1 (numR (numR false xs 1).2.1 (numR false xs 1).2.2 2).2.2 8).2.2).2
theorem after_cut (x y z : Int) (S : List Int) (m : Nat) (hS : S.length ≤ 60000) (hm : m < 13 + S.length) : after ((be x 1 ++ be y 2 ++ be z 8 ++ shortB S).take m) = (true, []) := by
  have hT : (be x 1 ++ be y 2 ++ be z 8 ++ shortB S).length = 13 + S.length := by simp [be_length, shortB]; omega
  generalize hP : (be x 1 ++ be y 2 ++ be z 8 ++ shortB S).take m = P
  have hl : P.length = m := by rw [← hP, List.length_take, hT]; omega
  unfold after
  by_cases h1 : m < 1
  · rw [numR_far P 1 (by omega)]
    simp only [numR_true, shortR_true]
  · rw [numR_ok P 1 (by omega)]
    by_cases h2 : m < 3
    · rw [numR_far (P.drop 1) 2 (by rw [List.length_drop]; omega)]
      simp only [numR_true, shortR_true]
    · rw [numR_ok (P.drop 1) 2 (by rw [List.length_drop]; omega)]
      by_cases h3 : m < 11
      · rw [numR_far _ 8 (by simp only [List.length_drop]; omega)]
        simp only [shortR_true]
      · rw [numR_ok _ 8 (by simp only [List.length_drop]; omega)]
        simp only [List.drop_drop]
        have e : P.drop (1 + 2 + 8) = (shortB S).take (m - 11) := by
          have e1 : (be x 1 ++ be y 2 ++ be z 8).length = 11 := by simp [be_length]
          rw [← hP, List.drop_take, List.drop_append, e1, List.drop_eq_nil_of_le (by rw [e1]; omega)]
          rfl
        rw [e]
        exact shortR_cut S _ hS (by omega)

theorem str_back (s : ByteArray) : strOfNums (strB s) = s := by
  obtain ⟨d⟩ := s
  obtain ⟨l⟩ := d
  simp [strOfNums, strB, Function.comp_def]

theorem nU8 (n : Int) (ys : List Int) : numR false (be (IntKind.u64.wrap n) 1 ++ ys) 1 = (n % 256, false, ys) := by
  have hw := IntKind.wrap_u64 n
  rw [numR_be _ (by rw [hw]; omega) 1 (by omega)]
  have e : (256 : Int) ^ 1 = 256 := by decide
  rw [e, hw, show n % 18446744073709551616 % 256 = n % 256 by omega, IntWalk.wrap64_in _ ⟨by omega, by omega⟩]
theorem nU16 (n : Int) (ys : List Int) : numR false (be (IntKind.u64.wrap n) 2 ++ ys) 2 = (n % 65536, false, ys) := by
  have hw := IntKind.wrap_u64 n
  rw [numR_be _ (by rw [hw]; omega) 2 (by omega)]
  have e : (256 : Int) ^ 2 = 65536 := by decide
  rw [e, hw, show n % 18446744073709551616 % 65536 = n % 65536 by omega, IntWalk.wrap64_in _ ⟨by omega, by omega⟩]

/-- A reader of the call's own. -/
theorem rt_own {T : TypeId} {w0 w w' : World} {p : Nat} {A : Option Addr} {st : Bool × List Int} (h : RTurned T w w' p A st) (hc : Chg (fun _ => False) w0 w) (hp : w0.heap.size ≤ p) :
    ∃ A' c', RAt T w' p A' c' st.1 st.2 ∧ Chg (fun _ => False) w0 w' := by
  obtain ⟨A', c', h1, _, h2⟩ := h
  exact ⟨A', c', h1, hc.trans h2 (fun x hx => .inr (by rw [hx]; exact hp))⟩
theorem rt_next {T : TypeId} {w w1 : World} {p : Nat} {A : Option Addr} {st : Bool × List Int} (h : RTurned T w w1 p A st) :
    ∃ A1 c1, RAt T w1 p A1 c1 st.1 st.2 ∧ ∀ w2 st2, RTurned T w1 w2 p A1 st2 → RTurned T w w2 p A st2 := by
  obtain ⟨A1, c1, h1, hb, hc⟩ := h
  exact ⟨A1, c1, h1, fun w2 st2 h2 => RTurned.trans hb hc h2⟩

set_option maxHeartbeats 8000000 in
set_option maxRecDepth 20000 in
theorem walk (w : World) (a : Int) (wa : (Lit.int .i64 a).wf = true) (b : Int) (wb : (Lit.int .i64 b).wf = true) (c : Int) (wc : (Lit.int .i64 c).wf = true) (s : ByteArray) (ws : s.size ≤ maxLen) (_zs : s.size ≤ 140737488351232) (cut : Int) (wcut : (Lit.int .i64 cut).wf = true) :
    Calls Try.prog 12 #[.int .i64 a, .int .i64 b, .int .i64 c, .string s, .int .i64 cut] w (SaysTrue w) := by
  simp only [maxLen] at ws
  go_enter Try.func12, Try.ntmps12
  go_wp2_with fail
  refine (newW_any w).mono ?_
  rintro e w1 ⟨p, rfl, hp, g1, hc1⟩
  go_wp2_with fail
  refine (known1_any w1).mono ?_
  rintro e w2 ⟨rfl, hc2⟩
  replace g1 := g1.keep hc2 (fun h => h) (fun _ _ h => h)
  replace hc2 := hc1.trans hc2 (fun x hx => hx.elim)
  clear hc1
  by_cases hs : 60000 < s.size
  case' pos =>
    obtain ⟨s1, hs1⟩ : ∃ s1, s1 = s.extract 0 60000 := ⟨_, rfl⟩
    have hz1 : s1.size ≤ 60000 := by rw [hs1, ByteArray.size_extract]; omega
    go_wp2_with fail
    rw [← hs1]
    clear hs1 hs ws
  case' neg =>
    obtain ⟨s1, hs1⟩ : ∃ s1, s1 = s := ⟨_, rfl⟩
    have hz1 : s1.size ≤ 60000 := by rw [hs1]; omega
    go_wp2_with fail
    rw [← hs1]
    clear hs1 hs ws
  all_goals
    refine (u8_any p none 0 [] a w2 g1 (by simp)).mono ?_
    rintro e w3 ⟨rfl, hw⟩
    obtain ⟨A3, c3, g3, hc3, hA3⟩ := hw.own hc2 hp (fun x hx => by cases hx)
    clear hw g1 hc2
    go_wp2_with fail
    refine (u16_any p A3 c3 _ b w3 g3 (by simp [be_length])).mono ?_
    rintro e w4 ⟨rfl, hw⟩
    obtain ⟨A4, c4, g4, hc4, hA4⟩ := hw.own hc3 hp hA3
    clear hw g3 hc3
    go_wp2_with fail
    refine (u64_any p A4 c4 _ c w4 g4 (by simp [be_length])).mono ?_
    rintro e w5 ⟨rfl, hw⟩
    obtain ⟨A5, c5, g5, hc5, hA5⟩ := hw.own hc4 hp hA4
    clear hw g4 hc4
    go_wp2_with fail
    refine (text_yes p A5 c5 _ s1 w5 g5 (by omega) (by simp only [List.length_append, be_length, List.length_nil]; omega)).mono ?_
    rintro e w6 ⟨rfl, hw⟩
    obtain ⟨A6, c6, g6, hc6, hA6⟩ := hw.own hc5 hp hA5
    clear hw g5 hc5 hA3 hA4 hA5
    obtain ⟨cur, hcur⟩ : ∃ cur, cur = [] ++ be (IntKind.u64.wrap a) 1 ++ be (IntKind.u64.wrap b) 2 ++ be (IntKind.u64.wrap c) 8 ++ shortB (strB s1) := ⟨_, rfl⟩
    rw [← hcur] at g6
    have hcl : cur.length = 13 + s1.size := by rw [hcur]; simp only [List.length_append, be_length, List.length_nil, shortB, strB_length]; omega
    have hne : ((cur.length : Int) != 13 + (s1.size : Int)) = false := by simp; omega
    have HL := Lib.hid hcl
    have HC := Lib.hid hcur
    have hcb : cur.length ≤ 60013 := by omega
    have hc0 : 13 ≤ cur.length := by omega
    clear hcl hcur
    go_wp2_with fail
    refine (bytes_any p A6 c6 cur w6 g6 (by omega)).mono ?_
    rintro e w7 ⟨A7, c7, rfl, -, hc7⟩
    replace g6 := g6.keep hc7 (fun h => h) (fun _ _ h => h)
    replace hc7 := hc6.trans hc7 (fun x hx => hx.elim)
    clear hc6
    go_wp2_with fail
    refine (bytes_any p A6 c6 cur w7 g6 (by omega)).mono ?_
    rintro e w8 ⟨A8, c8, rfl, ho8, hc8⟩
    replace hc8 := hc7.trans hc8 (fun x hx => hx.elim)
    clear hc7 g6 hne
    have hx8 := Rd.of_own ho8
    have hxb : ∀ x, blk A8 = some x → x < w8.heap.size := fun x hx => (own_lt ho8 hx).2
    have hcap : cur.length ≤ c8 := by
      rcases ho8.2 with ⟨e, e2⟩ | ⟨g, cap, cr, e, _, _, hle, _⟩
      · omega
      · injection e with _ _ e; omega
    clear ho8
    go_wp2_with fail
    refine (pick_any _ _ _ (by omega) (by omega)).mono ?_
    rintro e w' ⟨rfl, rfl⟩
    have hm0 := Int.emod_nonneg cut (by omega : ((cur.length : Nat) : Int) ≠ 0)
    have hm1 := Int.emod_lt_of_pos cut (by omega : (0 : Int) < ((cur.length : Nat) : Int))
    obtain ⟨m, hm⟩ := Int.eq_ofNat_of_zero_le hm0
    rw [hm] at hm0 hm1 ⊢
    clear hm
    have hmc : (m : Int) ≤ (c8 : Int) := by omega
    have hby : ∀ x ∈ cur, 0 ≤ x ∧ x ≤ 255 := by
      rw [HC.out]
      have h0 : ∀ z ∈ ([] : List Int), 0 ≤ z ∧ z ≤ 255 := fun z hz => by cases hz
      refine byt_app (byt_app (byt_app (byt_app h0 (be_byt _ _)) (be_byt _ _)) (be_byt _ _)) (shortB_byt ?_)
      intro z hz
      obtain ⟨y, _, rfl⟩ := List.mem_map.1 hz
      have := y.toNat_lt
      omega
    have HY := Lib.hid hby
    clear hby
    go_wp2_with fail
    refine (newR_any A8 c8 m (cur.take m) w8 (by rw [List.map_take]; exact hx8.take m) (by rw [List.length_take]; omega) (by omega) (fun x hx => HY.out x (List.mem_of_mem_take hx))).mono ?_
    rintro e w9 ⟨r, A9, c9, rfl, r9, -, hr, hc9⟩
    replace hx8 := hx8.keep hc9 (fun _ _ h => h)
    have hxr : Off (· = r) A8 := fun x hx e => by have := hxb x hx; rw [e] at this; exact Nat.lt_irrefl _ (Nat.lt_of_lt_of_le this hr)
    have hrw : w.heap.size ≤ r := Nat.le_trans hc8.size hr
    replace hc9 := hc8.trans hc9 (fun x hx => hx.elim)
    clear hc8 hxb
    have HA := Lib.hid (after_cut (IntKind.u64.wrap a) (IntKind.u64.wrap b) (IntKind.u64.wrap c) (strB s1) m (by rw [strB_length]; exact hz1) (by rw [strB_length]; have := HL.out; omega))
    have hP : cur.take m = (be (IntKind.u64.wrap a) 1 ++ be (IntKind.u64.wrap b) 2 ++ be (IntKind.u64.wrap c) 8 ++ shortB (strB s1)).take m := by rw [HC.out]; rfl
    rw [← hP] at HA
    clear hP
    generalize cur.take m = P at r9 HA ⊢
    go_wp2_with fail
    refine (gu8_any r A9 c9 false P w9 r9).mono ?_
    rintro e w10 ⟨rfl, hst⟩
    obtain ⟨A10, c10, r10, hn10⟩ := rt_next hst
    clear hst
    go_wp2_with fail
    refine (gu16_any r A10 c10 _ _ w10 r10).mono ?_
    rintro e w11 ⟨rfl, hst⟩
    obtain ⟨A11, c11, r11, hn11⟩ := rt_next hst
    clear hst
    go_wp2_with fail
    refine (gu64_any r A11 c11 _ _ w11 r11).mono ?_
    rintro e w12 ⟨rfl, hst⟩
    obtain ⟨A12, c12, r12, hn12⟩ := rt_next hst
    clear hst
    go_wp2_with fail
    refine (gtext_any r A12 c12 _ _ w12 r12).mono ?_
    rintro e w13 ⟨rfl, hst⟩
    replace hst := hn10 _ _ (hn11 _ _ (hn12 _ _ hst))
    have hA2 := HA.out
    unfold after at hA2
    rw [hA2] at hst
    obtain ⟨A13, c13, r13, -, hc13⟩ := hst
    simp only at r13
    replace hx8 := hx8.keep hc13 hxr
    replace hc13 := hc9.trans hc13 (fun x hx => .inr (by rw [hx]; exact hrw))
    clear hn10 hn11 hn12 r10 r11 r12 r9 HA hA2 hc9
    go_wp2_with fail
    refine (newR_any A8 c8 cur.length cur w13 hx8 rfl (by omega) HY.out).mono ?_
    rintro e w14 ⟨t, A14, c14, rfl, t14, -, ht, hc14⟩
    replace r13 := r13.keep hc14 (fun h => h) (fun _ _ h => h)
    have htw : w.heap.size ≤ t := Nat.le_trans hc13.size ht
    replace hc14 := hc13.trans hc14 (fun x hx => hx.elim)
    clear hc13 hx8
    have t14 : RAt 112 w14 t A14 c14 false (be (IntKind.u64.wrap a) 1 ++ (be (IntKind.u64.wrap b) 2 ++ (be (IntKind.u64.wrap c) 8 ++ (shortB (strB s1) ++ [])))) := by
      rw [HC.out] at t14
      simpa only [List.nil_append, List.append_nil, List.append_assoc] using t14
    go_wp2_with fail
    refine (lack_any r A13 c13 true [] w14 r13).mono ?_
    rintro e w' ⟨rfl, rfl⟩
    go_wp2_with fail
    refine (left_any r A13 c13 true [] _ r13).mono ?_
    rintro e w' ⟨rfl, rfl⟩
    clear r13
    go_wp2_with fail
    refine (gu8_any t A14 c14 _ _ _ t14).mono ?_
    rw [nU8]
    rintro e w15 ⟨rfl, hst⟩
    obtain ⟨A15, c15, t15, hc15⟩ := rt_own hst hc14 htw
    clear hst t14 hc14
    go_wp2_with fail
    refine (pick_any _ _ _ (by omega) (by omega)).mono ?_
    rintro e w' ⟨rfl, rfl⟩
    go_wp2_with fail
    refine (gu16_any t A15 c15 _ _ _ t15).mono ?_
    rw [nU16]
    rintro e w16 ⟨rfl, hst⟩
    obtain ⟨A16, c16, t16, hc16⟩ := rt_own hst hc15 htw
    clear hst t15 hc15
    go_wp2_with fail
    refine (pick_any _ _ _ (by omega) (by omega)).mono ?_
    rintro e w' ⟨rfl, rfl⟩
    go_wp2_with fail
    refine (gu64_any t A16 c16 _ _ _ t16).mono ?_
    rw [numR_8 c (bounds_i64 wc)]
    rintro e w17 ⟨rfl, hst⟩
    obtain ⟨A17, c17, t17, hc17⟩ := rt_own hst hc16 htw
    clear hst t16 hc16
    go_wp2_with fail
    refine (gtext_any t A17 c17 _ _ _ t17).mono ?_
    rw [shortR_app (strB s1) [] (by rw [strB_length]; omega), str_back]
    rintro e w18 ⟨rfl, hst⟩
    obtain ⟨A18, c18, t18, hc18⟩ := rt_own hst hc17 htw
    clear hst t17 hc17
    go_wp2_with fail
    refine (lack_any t A18 c18 false [] _ t18).mono ?_
    rintro e w' ⟨rfl, rfl⟩
    go_wp2_with fail
    go_ret
    exact ⟨rfl, hc18⟩
end Go.Proofs.Ytngfimjbgopgjaa.octetSizes
