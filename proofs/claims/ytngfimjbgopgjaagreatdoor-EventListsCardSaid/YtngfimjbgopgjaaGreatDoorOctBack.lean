/- OctLaw, EvBack, in one text (merge.py). -/
import Derived.Test.YtngfimjbgopgjaaGreatDoorRdKnown
import Derived.Test.YtngfimjbgopgjaaGreatDoorEvPure
/- The plain law of chapter 1: what is laid is read back. No walk. -/
namespace Go.Proofs.YtngfimjbgopgjaaGreatDoor
open Go.RowKit
set_option linter.unusedVariables false

theorem mod_step (x m : Int) (hx : 0 ≤ x) (hm : 0 < m) : x % (m * 256) = x / m % 256 * m + x % m := by
  obtain ⟨X, rfl⟩ := Int.eq_ofNat_of_zero_le hx
  obtain ⟨M, rfl⟩ := Int.eq_ofNat_of_zero_le (Int.le_of_lt hm)
  have h := Nat.mod_mul (x := X) (a := M) (b := 256)
  have h2 : ((X % (M * 256) : Nat) : Int) = ((X % M + M * (X / M % 256) : Nat) : Int) := by rw [h]
  simp only [Int.natCast_emod, Int.natCast_mul, Int.natCast_add, Int.natCast_ediv] at h2
  rw [show ((256 : Nat) : Int) = 256 from rfl] at h2
  rw [h2, Int.add_comm, Int.mul_comm (M : Int)]

theorem fold_be (x : Int) (hx : 0 ≤ x) (n : Nat) : ∀ a : Int, 0 ≤ a → (a + 1) * 256 ^ n ≤ 18446744073709551616 →
    (be x n).foldl (fun v c => IntKind.u64.wrap (v * 256) + c) a = a * 256 ^ n + x % 256 ^ n := by
  induction n with
  | zero => intro a _ _; simp [be, Int.emod_one]
  | succ n ih =>
    intro a h0 hb
    have hp : (0 : Int) < 256 ^ n := Int.pow_pos (by omega)
    have hq : (256 : Int) ^ (n + 1) = 256 ^ n * 256 := Int.pow_succ ..
    have hd0 : 0 ≤ x / 256 ^ n % 256 := by omega
    have hd1 : x / 256 ^ n % 256 < 256 := by omega
    have hb2 : (a * 256 + 256) * 256 ^ n ≤ 18446744073709551616 := by
      have e : (a + 1) * 256 ^ (n + 1) = (a * 256 + 256) * 256 ^ n := by
        rw [hq, ← Int.mul_assoc, Int.mul_right_comm, Int.add_mul]; simp
      rw [← e]; exact hb
    have hle : a * 256 + 256 ≤ 18446744073709551616 := by
      have h1 : (a * 256 + 256) * 1 ≤ (a * 256 + 256) * 256 ^ n := Int.mul_le_mul_of_nonneg_left (by omega) (by omega)
      omega
    have hw : IntKind.u64.wrap (a * 256) = a * 256 := IntWalk.u64_in _ ⟨by omega, by omega⟩
    show (be x n).foldl _ (IntKind.u64.wrap (a * 256) + x / 256 ^ n % 256) = _
    rw [hw, ih _ (by omega) ?_, hq, mod_step x _ hx hp, Int.add_mul, Int.mul_assoc a, Int.mul_comm 256 (256 ^ n), Int.add_assoc]
    refine Int.le_trans (Int.mul_le_mul_of_nonneg_right ?_ (Int.le_of_lt hp)) hb2
    omega

theorem getV_be (x : Int) (hx : 0 ≤ x) (n : Nat) (hn : n ≤ 8) : getV (be x n) = x % 256 ^ n := by
  have h := fold_be x hx n 0 (by omega) (by
    have h1 : (256 : Int) ^ n ≤ 18446744073709551616 := by
      rcases (by omega : n = 0 ∨ n = 1 ∨ n = 2 ∨ n = 3 ∨ n = 4 ∨ n = 5 ∨ n = 6 ∨ n = 7 ∨ n = 8) with rfl | rfl | rfl | rfl | rfl | rfl | rfl | rfl | rfl <;> decide
    omega)
  rw [getV, h]
  simp

theorem takeR_app (xs ys : List Int) (n : Nat) (h : xs.length = n) : takeR false (xs ++ ys) n = (xs, false, ys) := by
  unfold takeR
  rw [if_neg (by simp; omega)]
  simp [← h]

theorem numR_be (x : Int) (hx : 0 ≤ x) (n : Nat) (hn : n ≤ 8) (ys : List Int) : numR false (be x n ++ ys) n = (wrap64 (x % 256 ^ n), false, ys) := by
  rw [numR, takeR_app _ _ n (be_length x n), getV_be x hx n hn]

theorem shortR_app (xs ys : List Int) (h : xs.length ≤ 65535) : shortR false (shortB xs ++ ys) = (xs, false, ys) := by
  have h1 : numR false (be (xs.length : Int) 2 ++ (xs ++ ys)) 2 = ((xs.length : Int), false, xs ++ ys) := by
    rw [numR_be _ (by omega) 2 (by omega)]
    have e : (256 : Int) ^ 2 = 65536 := by decide
    rw [e, Int.emod_eq_of_lt (by omega) (by omega), IntWalk.wrap64_in _ ⟨by omega, by omega⟩]
  rw [shortR, shortB, List.append_assoc, h1]
  exact takeR_app xs ys xs.length rfl

/-- Bytes of numbers are bytes. -/
theorem be_byt (x : Int) (n : Nat) : ∀ z ∈ be x n, 0 ≤ z ∧ z ≤ 255 := by
  induction n with
  | zero => intro z hz; cases hz
  | succ n ih =>
    intro z hz
    rcases List.mem_cons.1 hz with rfl | hz
    · omega
    · exact ih z hz
theorem byt_app {xs ys : List Int} (h1 : ∀ z ∈ xs, 0 ≤ z ∧ z ≤ 255) (h2 : ∀ z ∈ ys, 0 ≤ z ∧ z ≤ 255) : ∀ z ∈ xs ++ ys, 0 ≤ z ∧ z ≤ 255 := by
  intro z hz
  rcases List.mem_append.1 hz with h | h
  · exact h1 z h
  · exact h2 z h
theorem shortB_byt {xs : List Int} (h : ∀ z ∈ xs, 0 ≤ z ∧ z ≤ 255) : ∀ z ∈ shortB xs, 0 ≤ z ∧ z ≤ 255 := byt_app (be_byt _ _) h
theorem numR_1 (n : Int) (ys : List Int) : numR false (be (IntKind.u64.wrap (n % 256)) 1 ++ ys) 1 = (n % 256, false, ys) := by
  rw [IntWalk.u64_in _ ⟨by omega, by omega⟩, numR_be _ (by omega) 1 (by omega)]
  simp only [Int.pow_succ, Int.pow_zero, Int.one_mul]
  rw [Int.emod_emod, IntWalk.wrap64_in _ ⟨by omega, by omega⟩]
theorem numR_2 (n : Int) (ys : List Int) : numR false (be (IntKind.u64.wrap (n % 65536)) 2 ++ ys) 2 = (n % 65536, false, ys) := by
  rw [IntWalk.u64_in _ ⟨by omega, by omega⟩, numR_be _ (by omega) 2 (by omega)]
  have e : (256 : Int) ^ 2 = 65536 := by decide
  rw [e, Int.emod_emod, IntWalk.wrap64_in _ ⟨by omega, by omega⟩]
theorem numR_8 (n : Int) (h : -9223372036854775808 ≤ n ∧ n ≤ 9223372036854775807) (ys : List Int) : numR false (be (IntKind.u64.wrap n) 8 ++ ys) 8 = (n, false, ys) := by
  have hw := IntKind.wrap_u64 n
  rw [numR_be _ (by rw [hw]; omega) 8 (by omega)]
  have e : (256 : Int) ^ 8 = 18446744073709551616 := by decide
  rw [e, hw]
  have : wrap64 (n % 18446744073709551616 % 18446744073709551616) = n := by unfold wrap64; omega
  rw [this]
end Go.Proofs.YtngfimjbgopgjaaGreatDoor

/- The plain law of package event: what is laid of an event that is right is read back. -/
namespace Go.Proofs.YtngfimjbgopgjaaGreatDoor
open Go.RowKit
set_option linter.unusedVariables false

theorem rd_num1 (n : Int) (h0 : 0 ≤ n) (h1 : n ≤ 255) (ys : List Int) : numR false (be (IntKind.u64.wrap n) 1 ++ ys) 1 = (n, false, ys) := by
  have h := numR_1 n ys
  rwa [show n % 256 = n by omega] at h
theorem rd_num2 (n : Int) (h0 : 0 ≤ n) (h1 : n ≤ 65535) (ys : List Int) : numR false (be (IntKind.u64.wrap n) 2 ++ ys) 2 = (n, false, ys) := by
  have h := numR_2 n ys
  rwa [show n % 65536 = n by omega] at h
theorem rd_num8 (n : Int) (h0 : 0 ≤ n) (h1 : n ≤ 9223372036854775807) (ys : List Int) : numR false (be (IntKind.u64.wrap n) 8 ++ ys) 8 = (n, false, ys) := numR_8 n ⟨by omega, h1⟩ ys
theorem needsR_lay : ∀ (l : List Int) (ys : List Int), (∀ n ∈ l, 0 ≤ n ∧ n ≤ 255) → needsR l.length (false, needsBy l ++ ys) = (l, false, ys)
  | [], ys, _ => rfl
  | n :: l, ys, h => by
    have h1 := h n List.mem_cons_self
    simp only [List.length_cons, needsR, needsBy, List.append_assoc]
    rw [rd_num1 n h1.1 h1.2, needsR_lay l ys (fun m hm => h m (List.mem_cons_of_mem _ hm))]
    rfl
theorem defR_lay (d : List Int × Int × Int) (ys : List Int) (h1 : 0 ≤ d.2.1 ∧ d.2.1 ≤ 255) (h2 : 0 ≤ d.2.2 ∧ d.2.2 ≤ 1048576) (h3 : d.1.length ≤ 255) (h4 : ∀ n ∈ d.1, 0 ≤ n ∧ n ≤ 255) :
    defR (false, be (IntKind.u64.wrap d.2.1) 1 ++ (be (IntKind.u64.wrap d.2.2) 8 ++ (be (IntKind.u64.wrap (d.1.length : Int)) 1 ++ (needsBy d.1 ++ ys)))) = (d, false, ys) := by
  simp only [defR]
  rw [rd_num1 _ h1.1 h1.2, rd_num8 _ h2.1 (by omega), rd_num1 _ (by omega) (by omega), Int.toNat_natCast, needsR_lay _ _ h4]
theorem defsR_lay : ∀ (l : List (List Int × Int × Int)) (ys : List Int), (∀ d ∈ l, (0 ≤ d.2.1 ∧ d.2.1 ≤ 255) ∧ (0 ≤ d.2.2 ∧ d.2.2 ≤ 1048576) ∧ d.1.length ≤ 255 ∧ ∀ n ∈ d.1, 0 ≤ n ∧ n ≤ 255) → defsR l.length (false, defsBy l ++ ys) = (l, false, ys)
  | [], ys, _ => rfl
  | d :: l, ys, h => by
    obtain ⟨h1, h2, h3, h4⟩ := h d List.mem_cons_self
    simp only [List.length_cons, defsR, defsBy, List.append_assoc]
    rw [defR_lay d _ h1 h2 h3 h4, defsR_lay l ys (fun m hm => h m (List.mem_cons_of_mem _ hm))]
    rfl
theorem needsB_mem {c : Int} : ∀ {l : List Int} {a : Int}, needsB a c l = true → ∀ n ∈ l, a < n ∧ n < c
  | [], _, _, n, hn => by cases hn
  | m :: l, a, h, n, hn => by
    simp only [needsB, Bool.and_eq_true, decide_eq_true_eq] at h
    obtain ⟨⟨h1, h2⟩, h3⟩ := h
    rcases List.mem_cons.1 hn with rfl | hn
    · exact ⟨h1, h2⟩
    · have h4 := needsB_mem h3 n hn
      exact ⟨by omega, h4.2⟩
theorem strB_back (l : List Int) (h : ∀ z ∈ l, 0 ≤ z ∧ z ≤ 255) : strB (strOfNums l) = l := by
  rw [strB, strOfNums_data, List.map_map]
  conv => rhs; rw [← List.map_id l]
  refine List.map_congr_left fun z hz => ?_
  have := h z hz
  simp only [Function.comp, id]
  rw [UInt8.toNat_ofNat']
  omega
theorem mostN_bd (k : Int) : 0 ≤ mostN k ∧ mostN k ≤ 1048576 := by
  unfold mostN
  split
  · omega
  · split <;> omega
/-- What a right event's parts are. -/
theorem right_parts {v : EvV} (h : v.right = true) : (1 ≤ v.id ∧ v.id ≤ 200) ∧ (1 ≤ v.ver ∧ v.ver ≤ 1099511627776) ∧ (0 ≤ v.tm ∧ v.tm ≤ 1099511627776) ∧ (1 ≤ v.ty ∧ v.ty ≤ 12) ∧ (0 ≤ v.node ∧ v.node ≤ 7) ∧ (0 ≤ v.m ∧ v.m ≤ 1048576) ∧ v.nb.length ≤ 16 ∧ v.bs.length ≤ 40 ∧ v.dv.length ≤ 8 ∧
    ∀ d ∈ v.dv, (0 ≤ d.2.1 ∧ d.2.1 ≤ 255) ∧ (0 ≤ d.2.2 ∧ d.2.2 ≤ 1048576) ∧ d.1.length ≤ 255 ∧ ∀ n ∈ d.1, 0 ≤ n ∧ n ≤ 255 := by
  have hs := rightEB_short h
  rw [strOfNums_size] at hs
  unfold EvV.right at h
  simp only [rightEB, Bool.and_eq_true, decide_eq_true_eq] at h
  obtain ⟨h0, h1, h2, h3, h4, h5, h6⟩ := h
  have h2' := rightB_iff.1 h2
  simp only [okB, Bool.and_eq_true, decide_eq_true_eq] at h0
  simp only [numB, Bool.and_eq_true, Bool.or_eq_true, decide_eq_true_eq, Bool.not_eq_true', decide_eq_false_iff_not] at h4
  have hm := mostN_bd v.ty
  refine ⟨h1, ⟨h2'.1, h2'.2.1⟩, h3, h0, h4.2.1, ?_, hs.1, hs.2.1, hs.2.2.1, ?_⟩
  · rcases h4.2.2 with h7 | h7
    · rcases h4.1.2 with h8 | h8
      · exact absurd h7 h8
      · omega
    · omega
  · intro d hd
    by_cases hdf : defsB v.ty = true
    · rw [if_pos hdf] at h6
      simp only [rightDefsB, Bool.and_eq_true, decide_eq_true_eq, List.all_eq_true] at h6
      obtain ⟨h10, h11, h12⟩ := h6
      have h13 := h10 d hd
      simp only [rightDefB, Bool.and_eq_true, decide_eq_true_eq] at h13
      obtain ⟨h14, ⟨h15, h16⟩, h17, h18⟩ := h13
      have h19 := hs.2.2.2 d hd
      exact ⟨⟨by omega, by omega⟩, ⟨by omega, h18⟩, by omega, fun n hn => by have := needsB_mem h14 n hn; omega⟩
    · rw [if_neg hdf] at h6
      have h7 : v.dv.length = 0 := by simpa using h6
      rw [List.length_eq_zero_iff.1 h7] at hd
      cases hd
/-- WHAT IS LAID IS READ BACK. -/
theorem readV_lay {v : EvV} (h : v.right = true) (hb : ∀ z ∈ v.nb, 0 ≤ z ∧ z ≤ 255) : readV v.lay = v := by
  obtain ⟨a1, a2, a3, a4, a5, a6, a7, a8, a9, a10⟩ := right_parts h
  obtain ⟨id, ver, tm, ty, node, m, nb, bs, dv⟩ := v
  simp only at a1 a2 a3 a4 a5 a6 a7 a8 a9 a10 hb
  have hl := defsR_lay dv [] a10
  rw [List.append_nil] at hl
  simp only [EvV.lay, evGB, strB_back nb hb, List.nil_append, List.append_assoc, readV]
  rw [rd_num2 id (by omega) (by omega), rd_num8 ver (by omega) (by omega), rd_num8 tm (by omega) (by omega), rd_num1 ty (by omega) (by omega), rd_num1 node (by omega) (by omega), rd_num8 m (by omega) (by omega), shortR_app nb _ (by omega), shortR_app bs _ (by omega), rd_num1 (dv.length : Int) (by omega) (by omega)]
  simp only [Int.toNat_natCast]
  rw [hl]
/-- Two right events that are laid alike are the same. -/
theorem lay_inj {v u : EvV} (h : v.right = true) (hb : ∀ z ∈ v.nb, 0 ≤ z ∧ z ≤ 255) (h' : u.right = true) (hb' : ∀ z ∈ u.nb, 0 ≤ z ∧ z ≤ 255) (e : v.lay = u.lay) : v = u := by
  rw [← readV_lay h hb, ← readV_lay h' hb', e]
end Go.Proofs.YtngfimjbgopgjaaGreatDoor
