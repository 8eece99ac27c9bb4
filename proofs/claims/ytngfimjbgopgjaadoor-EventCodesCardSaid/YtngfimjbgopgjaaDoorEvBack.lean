/- The plain law of package event: what is laid of an event that is right is read back. -/
import Derived.Test.YtngfimjbgopgjaaDoorEvPure
import Derived.Test.YtngfimjbgopgjaaDoorOctLaw
namespace Go.Proofs.YtngfimjbgopgjaaDoor
open Go.RowKit
set_option linter.unusedVariables false

theorem rd_num1 (n : Int) (h0 : 0 ≤ n) (h1 : n ≤ 255) (ys : List Int) : numR false (be (IntKind.u64.wrap n) 1 ++ ys) 1 = (n, false, ys) := by
  have h := numR_1 n ys
  rwa [show n % 256 = n by omega] at h
theorem rd_num2 (n : Int) (h0 : 0 ≤ n) (h1 : n ≤ 65535) (ys : List Int) : numR false (be (IntKind.u64.wrap n) 2 ++ ys) 2 = (n, false, ys) := by
  have h := numR_2 n ys
  rwa [show n % 65536 = n by omega] at h
theorem rd_num8 (n : Int) (h0 : 0 ≤ n) (h1 : n ≤ 9223372036854775807) (ys : List Int) : numR false (be (IntKind.u64.wrap n) 8 ++ ys) 8 = (n, false, ys) := numR_8 n ⟨by omega, h1⟩ ys
theorem needsR_lay : ∀ (l : List Int) (ys : List Int), (∀ n ∈ l, 0 ≤ n ∧ n ≤ 255) → needsR l.length (false, needsBy l ++ ys) = (l, false, ys)
  | [], ys, _ => rfl
  | n :: l, ys, h => by
    have h1 := h n List.mem_cons_self
    simp only [List.length_cons, needsR, needsBy, List.append_assoc]
    rw [rd_num1 n h1.1 h1.2, needsR_lay l ys (fun m hm => h m (List.mem_cons_of_mem _ hm))]
    rfl
theorem defR_lay (d : List Int × Int × Int) (ys : List Int) (h1 : 0 ≤ d.2.1 ∧ d.2.1 ≤ 255) (h2 : 0 ≤ d.2.2 ∧ d.2.2 ≤ 1048576) (h3 : d.1.length ≤ 255) (h4 : ∀ n ∈ d.1, 0 ≤ n ∧ n ≤ 255) :
    defR (false, be (IntKind.u64.wrap d.2.1) 1 ++ (be (IntKind.u64.wrap d.2.2) 8 ++ (be (IntKind.u64.wrap (d.1.length : Int)) 1 ++ (needsBy d.1 ++ ys)))) = (d, false, ys) := by
  simp only [defR]
  rw [rd_num1 _ h1.1 h1.2, rd_num8 _ h2.1 (by omega), rd_num1 _ (by omega) (by omega), Int.toNat_natCast, needsR_lay _ _ h4]
theorem defsR_lay : ∀ (l : List (List Int × Int × Int)) (ys : List Int), (∀ d ∈ l, (0 ≤ d.2.1 ∧ d.2.1 ≤ 255) ∧ (0 ≤ d.2.2 ∧ d.2.2 ≤ 1048576) ∧ d.1.length ≤ 255 ∧ ∀ n ∈ d.1, 0 ≤ n ∧ n ≤ 255) → defsR l.length (false, defsBy l ++ ys) = (l, false, ys)
  | [], ys, _ => rfl
  | d :: l, ys, h => by
    obtain ⟨h1, h2, h3, h4⟩ := h d List.mem_cons_self
    simp only [List.length_cons, defsR, defsBy, List.append_assoc]
    rw [defR_lay d _ h1 h2 h3 h4, defsR_lay l ys (fun m hm => h m (List.mem_cons_of_mem _ hm))]
    rfl
theorem needsB_mem {c : Int} : ∀ {l : List Int} {a : Int}, needsB a c l = true → ∀ n ∈ l, a < n ∧ n < c
  | [], _, _, n, hn => by cases hn
  | m :: l, a, h, n, hn => by
    simp only [needsB, Bool.and_eq_true, decide_eq_true_eq] at h
    obtain ⟨⟨h1, h2⟩, h3⟩ := h
    rcases List.mem_cons.1 hn with rfl | hn
    · exact ⟨h1, h2⟩
    · have h4 := needsB_mem h3 n hn
      exact ⟨by omega, h4.2⟩
theorem strB_back (l : List Int) (h : ∀ z ∈ l, 0 ≤ z ∧ z ≤ 255) : strB (strOfNums l) = l := by
  rw [strB, strOfNums_data, List.map_map]
  conv => rhs; rw [← List.map_id l]
  refine List.map_congr_left fun z hz => ?_
  have := h z hz
  simp only [Function.comp, id]
  rw [UInt8.toNat_ofNat']
  omega
theorem mostN_bd (k : Int) : 0 ≤ mostN k ∧ mostN k ≤ 1048576 := by
  unfold mostN
  split
  · omega
  · split <;> omega
/-- What a right event's parts are. -/
theorem right_parts {v : EvV} (h : v.right = true) : (1 ≤ v.id ∧ v.id ≤ 200) ∧ (1 ≤ v.ver ∧ v.ver ≤ 1099511627776) ∧ (0 ≤ v.tm ∧ v.tm ≤ 1099511627776) ∧ (1 ≤ v.ty ∧ v.ty ≤ 12) ∧ (0 ≤ v.node ∧ v.node ≤ 7) ∧ (0 ≤ v.m ∧ v.m ≤ 1048576) ∧ v.nb.length ≤ 16 ∧ v.bs.length ≤ 40 ∧ v.dv.length ≤ 8 ∧
    ∀ d ∈ v.dv, (0 ≤ d.2.1 ∧ d.2.1 ≤ 255) ∧ (0 ≤ d.2.2 ∧ d.2.2 ≤ 1048576) ∧ d.1.length ≤ 255 ∧ ∀ n ∈ d.1, 0 ≤ n ∧ n ≤ 255 := by
  have hs := rightEB_short h
  rw [strOfNums_size] at hs
  unfold EvV.right at h
  simp only [rightEB, Bool.and_eq_true, decide_eq_true_eq] at h
  obtain ⟨h0, h1, h2, h3, h4, h5, h6⟩ := h
  have h2' := rightB_iff.1 h2
  simp only [okB, Bool.and_eq_true, decide_eq_true_eq] at h0
  simp only [numB, Bool.and_eq_true, Bool.or_eq_true, decide_eq_true_eq, Bool.not_eq_true', decide_eq_false_iff_not] at h4
  have hm := mostN_bd v.ty
  refine ⟨h1, ⟨h2'.1, h2'.2.1⟩, h3, h0, h4.2.1, ?_, hs.1, hs.2.1, hs.2.2.1, ?_⟩
  · rcases h4.2.2 with h7 | h7
    · rcases h4.1.2 with h8 | h8
      · exact absurd h7 h8
      · omega
    · omega
  · intro d hd
    by_cases hdf : defsB v.ty = true
    · rw [if_pos hdf] at h6
      simp only [rightDefsB, Bool.and_eq_true, decide_eq_true_eq, List.all_eq_true] at h6
      obtain ⟨h10, h11, h12⟩ := h6
      have h13 := h10 d hd
      simp only [rightDefB, Bool.and_eq_true, decide_eq_true_eq] at h13
      obtain ⟨h14, ⟨h15, h16⟩, h17, h18⟩ := h13
      have h19 := hs.2.2.2 d hd
      exact ⟨⟨by omega, by omega⟩, ⟨by omega, h18⟩, by omega, fun n hn => by have := needsB_mem h14 n hn; omega⟩
    · rw [if_neg hdf] at h6
      have h7 : v.dv.length = 0 := by simpa using h6
      rw [List.length_eq_zero_iff.1 h7] at hd
      cases hd
/-- WHAT IS LAID IS READ BACK. -/
theorem readV_lay {v : EvV} (h : v.right = true) (hb : ∀ z ∈ v.nb, 0 ≤ z ∧ z ≤ 255) : readV v.lay = v := by
  obtain ⟨a1, a2, a3, a4, a5, a6, a7, a8, a9, a10⟩ := right_parts h
  obtain ⟨id, ver, tm, ty, node, m, nb, bs, dv⟩ := v
  simp only at a1 a2 a3 a4 a5 a6 a7 a8 a9 a10 hb
  have hl := defsR_lay dv [] a10
  rw [List.append_nil] at hl
  simp only [EvV.lay, evGB, strB_back nb hb, List.nil_append, List.append_assoc, readV]
  rw [rd_num2 id (by omega) (by omega), rd_num8 ver (by omega) (by omega), rd_num8 tm (by omega) (by omega), rd_num1 ty (by omega) (by omega), rd_num1 node (by omega) (by omega), rd_num8 m (by omega) (by omega), shortR_app nb _ (by omega), shortR_app bs _ (by omega), rd_num1 (dv.length : Int) (by omega) (by omega)]
  simp only [Int.toNat_natCast]
  rw [hl]
/-- Two right events that are laid alike are the same. -/
theorem lay_inj {v u : EvV} (h : v.right = true) (hb : ∀ z ∈ v.nb, 0 ≤ z ∧ z ≤ 255) (h' : u.right = true) (hb' : ∀ z ∈ u.nb, 0 ≤ z ∧ z ≤ 255) (e : v.lay = u.lay) : v = u := by
  rw [← readV_lay h hb, ← readV_lay h' hb', e]
end Go.Proofs.YtngfimjbgopgjaaDoor
