/- RfRdL, RfAll, RfReadAll, in one text (merge.py). -/
import Derived.Test.YtngfimjbgopgjaaGreatDoorRdKnown
import Derived.Test.YtngfimjbgopgjaaGreatDoorEvOwnAll
import Derived.Test.YtngfimjbgopgjaaGreatDoorEvList
import Derived.Test.YtngfimjbgopgjaaGreatDoorRfRead
import Derived.Deep.RegionHeld3
import Derived.BigQuiet
/- Contract of cutoverref1's Short, told sharper: what it gives lies in the heap (gen_rfall.py). -/
namespace Go.Proofs.YtngfimjbgopgjaaGreatDoor
open Go.RowKit
set_option linter.unusedVariables false

/-- Raw's answer; its slice lies in the heap. -/
def RGaveL (T : TypeId) (w : World) (p : Nat) (A : Option Addr) (r : List Int × Bool × List Int) (e : Ending) (w' : World) : Prop :=
  ∃ B d, e = .returned (.slice B r.1.length d) ∧ r.1.length ≤ d ∧ NewB w.heap.size w' r.1 B ∧ (∀ x, blk B = some x → x < w'.heap.size) ∧ RTurned T w w' p A r.2
theorem RGave.toL {T : TypeId} {w w' : World} {p n c : Nat} {A A2 : Option Addr} {r : List Int × Bool × List Int} (h : RGave T w p A r (.returned (.slice A2 n c)) w') (hA : ∀ x, blk A2 = some x → x < w'.heap.size) : RGaveL T w p A r (.returned (.slice A2 n c)) w' := by
  obtain ⟨B, d, he, h1, h2, h3⟩ := h
  have e : A2 = B := by injection he with he; injection he
  exact ⟨B, d, he, h1, h2, by rw [← e]; exact hA, h3⟩

set_option maxHeartbeats 2000000 in
set_option maxRecDepth 20000 in
theorem rtakeL_lack (p : Nat) (A : Option Addr) (c : Nat) (xs : List Int) (k : Int) (w : World) (hR : RAt 67 w p A c true xs) :
    Calls Tryz.prog 72 #[.pointer (some ⟨p, 0, none⟩), .int .i64 k] w (RGaveL 67 w p A ([], true, [])) := by
  have h0 := hR.cell0
  have h1 := hR.cell1
  have f0 := hR.frozen0
  have f1 := hR.frozen1
  go_enter Tryz.func72, Tryz.ntmps72
  go_wp2_with fail
  go_ret
  first | exact hR.lacked.1.toL (fun x hx => by cases hx) | exact hR.lacked.2.toL (fun x hx => by cases hx)

set_option maxHeartbeats 2000000 in
set_option maxRecDepth 20000 in
theorem rtakeL_neg (p : Nat) (A : Option Addr) (c : Nat) (xs : List Int) (k : Int) (w : World) (hR : RAt 67 w p A c false xs) (hk : k < 0) :
    Calls Tryz.prog 72 #[.pointer (some ⟨p, 0, none⟩), .int .i64 k] w (RGaveL 67 w p A ([], true, [])) := by
  have h0 := hR.cell0
  have h1 := hR.cell1
  have f0 := hR.frozen0
  have f1 := hR.frozen1
  go_enter Tryz.func72, Tryz.ntmps72
  go_wp2_with fail
  go_ret
  first | exact hR.lacked.1.toL (fun x hx => by cases hx) | exact hR.lacked.2.toL (fun x hx => by cases hx)

set_option maxHeartbeats 2000000 in
set_option maxRecDepth 20000 in
theorem rtakeL_far (p : Nat) (A : Option Addr) (c : Nat) (xs : List Int) (k : Int) (w : World) (hR : RAt 67 w p A c false xs) (hk0 : 0 ≤ k) (hk : (xs.length : Int) < k) :
    Calls Tryz.prog 72 #[.pointer (some ⟨p, 0, none⟩), .int .i64 k] w (RGaveL 67 w p A ([], true, [])) := by
  have h0 := hR.cell0
  have h1 := hR.cell1
  have f0 := hR.frozen0
  have f1 := hR.frozen1
  go_enter Tryz.func72, Tryz.ntmps72
  go_wp2_with fail
  go_ret
  first | exact hR.lacked.1.toL (fun x hx => by cases hx) | exact hR.lacked.2.toL (fun x hx => by cases hx)

set_option maxHeartbeats 2000000 in
set_option maxRecDepth 20000 in
theorem rtakeL_ok (p : Nat) (A : Option Addr) (c : Nat) (xs : List Int) (k : Nat) (w : World) (hR : RAt 67 w p A c false xs) (hk : k ≤ xs.length) :
    Calls Tryz.prog 72 #[.pointer (some ⟨p, 0, none⟩), .int .i64 k] w (RGaveL 67 w p A (xs.take k, false, xs.drop k)) := by
  obtain ⟨i0, hi, hz0, hz1, hz2⟩ := info_parts byteInfo
  have h0 := hR.cell0
  have h1 := hR.cell1
  have f0 := hR.frozen0
  have f1 := hR.frozen1
  have hlt := hR.lt
  have hcap := hR.cap
  have hlen := hR.len
  have hl1 : 0 + k ≤ maxLen := by simp only [maxLen]; omega
  have hl2 : (0 + k) * 1 ≤ 140737488355328 := by omega
  have hkc : (k : Int) ≤ (c : Int) := by omega
  have hmade : (w.alloc (.cells #[] 5)).ownsRow w.heap.size 5 1 (.slice (some ⟨w.heap.size, 0, none⟩) 0 0) 0 [] := World.ownsRow_made w #[] 0 (Nat.le_refl _) (by decide) rfl
  go_enter Tryz.func72, Tryz.ntmps72
  go_wp2_with (at_builtin; refine wpList_append_rd _ rfl (.tmp 29) (.tmp 35) 24 rfl w.heap.size 5 i0 _ 1 1 Tryz.underlying24 hi hz0 hz1 hz2 rfl (by decide) _ 0 0 [] rfl hmade A k c ((xs.take k).map (Value.int .u8)) rfl (by simp; omega) (by rw [List.map_take]; exact ((hR.rd.take k).alloc _)) (u8s_one _) hl1 hl2 (by simp) ?_; intro A2 c2 w2 hown2 hg2 hb2; have hcc := chg_made hg2; have h2 := hR.keep hcc (fun h => h) (fun _ _ h => h); have q0 := h2.cell0; have q1 := h2.frozen0)
  · go_ret
    exact (hR.took hk hown2 hcc (.inl (by rw [List.drop_eq_nil_of_le (by omega)]; rfl)) rfl (by omega)).toL (fun x hx => by have h1 := (own_lt hown2 hx).2; simpa [World.setCell] using h1)
  · go_ret
    exact (hR.took hk hown2 hcc (by rw [List.map_drop]; exact h2.rd.tail k) (blk_tail A k) (by omega)).toL (fun x hx => by have h1 := (own_lt hown2 hx).2; simpa [World.setCell] using h1)

set_option maxHeartbeats 2000000 in
set_option maxRecDepth 20000 in
theorem rtakeL_any (p : Nat) (A : Option Addr) (c : Nat) (lack : Bool) (xs : List Int) (k : Int) (w : World) (hR : RAt 67 w p A c lack xs) :
    Calls Tryz.prog 72 #[.pointer (some ⟨p, 0, none⟩), .int .i64 k] w (RGaveL 67 w p A (takeR lack xs k)) := by
  cases lack
  · by_cases h1 : k < 0
    · rw [takeR, if_pos (.inr (.inl h1))]
      exact rtakeL_neg p A c xs k w hR h1
    · by_cases h2 : (xs.length : Int) < k
      · rw [takeR, if_pos (.inr (.inr h2))]
        exact rtakeL_far p A c xs k w hR (by omega) h2
      · rw [takeR, if_neg (by simp; omega)]
        obtain ⟨n, rfl⟩ := Int.eq_ofNat_of_zero_le (by omega : 0 ≤ k)
        exact rtakeL_ok p A c xs n w hR (by omega)
  · rw [takeR, if_pos (.inl rfl)]
    exact rtakeL_lack p A c xs k w hR

set_option maxHeartbeats 2000000 in
set_option maxRecDepth 20000 in
theorem rgshortL_any (p : Nat) (A : Option Addr) (c : Nat) (lack : Bool) (xs : List Int) (w : World) (hR : RAt 67 w p A c lack xs) :
    Calls Tryz.prog 39 #[.pointer (some ⟨p, 0, none⟩)] w (RGaveL 67 w p A (shortR lack xs)) := by
  have HS : Hid (shortR lack xs = takeR (numR lack xs 2).2.1 (numR lack xs 2).2.2 (numR lack xs 2).1) := Lib.hid rfl
  go_enter Tryz.func39, Tryz.ntmps39
  go_wp2_with fail
  refine (rgu16_any p A c lack xs w hR).mono ?_
  generalize hr : numR lack xs 2 = r at HS ⊢
  clear hr
  obtain ⟨v, st⟩ := r
  rintro e w1 ⟨rfl, A1, c1, h1, hb1, hc1⟩
  simp only at h1 hc1
  go_wp2_with fail
  refine (rtakeL_any p A1 c1 st.1 st.2 v w1 h1).mono ?_
  rintro e w2 ⟨B, d, rfl, hd, hB, hBl, hst⟩
  go_wp2_with fail
  go_ret
  rw [HS.out]
  exact ⟨B, d, rfl, hd, ⟨hB.1, fun x hx => Nat.le_trans hc1.size (hB.2 x hx)⟩, hBl, RTurned.trans hb1 hc1 hst⟩
end Go.Proofs.YtngfimjbgopgjaaGreatDoor

/- Contracts of cutoverref8's Line, LayAll, ReadAll at any list (gen_rfall.py). -/
namespace Go.Proofs.YtngfimjbgopgjaaGreatDoor
open Go.RowKit
set_option linter.unusedVariables false

theorem rright_l (f : EvF) (w : World) (h : EvS w f) : Calls Tryz.prog 29 #[.agg #[.int .i64 f.id, .int .i64 f.ver, .int .i64 f.tm, .int .i64 f.ty, .int .i64 f.node, .int .i64 f.m, .string f.nm, .slice f.A f.bs.length f.c, .slice f.D f.dl.length f.dc]] w fun e w' => e = .returned (.bool f.right) ∧ Chg (fun _ => False) w w' :=
  rRightE_any f.id f.ver f.tm f.ty f.node f.m f.nm f.A f.bs.length f.c f.D f.dl.length f.dc f.dl w (by have := h.rdy.nm; omega) h.rdy.ds rfl (by have := h.rdy.dn; omega) (by have := h.rdy.bn; omega) (fun d hd => by have := h.rdy.ns d hd; omega)
theorem rlay_yes (f : EvF) (w : World) (h : EvS w f) (hr : f.right = true) : Calls Tryz.prog 26 #[.agg #[.int .i64 f.id, .int .i64 f.ver, .int .i64 f.tm, .int .i64 f.ty, .int .i64 f.node, .int .i64 f.m, .string f.nm, .slice f.A f.bs.length f.c, .slice f.D f.dl.length f.dc]] w fun e w' => (∃ A c, e = .returned (.tuple #[.slice A f.lay.length c, .int .i64 0]) ∧ Rd w' A (f.lay.map (Value.int .u8)) ∧ ∀ x, blk A = some x → w.heap.size ≤ x) ∧ Chg (fun _ => False) w w' := by
  refine (rlayY_any f.id f.ver f.tm f.ty f.node f.m f.nm f.A f.bs.length f.c f.bs f.D f.dl.length f.dc f.dl w h.rdy.rd rfl (by have := h.rdy.bn; omega) (by have := h.rdy.nm; omega) h.rdy.ds rfl (by have := h.rdy.dn; omega) (fun d hd => by have := h.rdy.ns d hd; omega)).mono fun e w' ⟨h1, hc⟩ => ⟨?_, hc⟩
  rcases h1 with ⟨_, A, c, h2, h3, _, h5⟩ | ⟨h2, _⟩
  · exact ⟨A, c, h2, h3, h5⟩
  · have h3 : f.right = false := h2
    rw [hr] at h3; cases h3
theorem rlay_no (f : EvF) (w : World) (h : EvS w f) (hr : ¬ f.right = true) : Calls Tryz.prog 26 #[.agg #[.int .i64 f.id, .int .i64 f.ver, .int .i64 f.tm, .int .i64 f.ty, .int .i64 f.node, .int .i64 f.m, .string f.nm, .slice f.A f.bs.length f.c, .slice f.D f.dl.length f.dc]] w fun e w' => e = .returned (.tuple #[.slice none 0 0, .int .i64 1]) ∧ Chg (fun _ => False) w w' := by
  refine (rlayY_any f.id f.ver f.tm f.ty f.node f.m f.nm f.A f.bs.length f.c f.bs f.D f.dl.length f.dc f.dl w h.rdy.rd rfl (by have := h.rdy.bn; omega) (by have := h.rdy.nm; omega) h.rdy.ds rfl (by have := h.rdy.dn; omega) (fun d hd => by have := h.rdy.ns d hd; omega)).mono fun e w' ⟨h1, hc⟩ => ⟨?_, hc⟩
  rcases h1 with ⟨h2, _⟩ | ⟨_, h2⟩
  · exact absurd h2 hr
  · exact h2
theorem rreadE_any (B : Option Addr) (n d : Nat) (xs : List Int) (w : World) (h : Rd w B (xs.map (Value.int .u8))) (hn : xs.length = n) (hnd : n ≤ d) (hBo : ∀ x, blk B = some x → x < w.heap.size) (hn2 : n ≤ 140737488355328) (hby : ∀ x ∈ xs, 0 ≤ x ∧ x ≤ 255) :
    Calls Tryz.prog 40 #[.slice B n d] w (ReadE w xs) :=
  (rreadY_any B n d xs w h hn hnd hBo hn2 hby).mono fun e w' h => h.ev hby

set_option maxHeartbeats 8000000 in
set_option maxRecDepth 20000 in
theorem rlayAll_any (A : Option Addr) (c : Nat) (l : List EvF) (w : World) (h : RdEv w A l) (hl : l.length ≤ 1048576) :
    Calls Tryz.prog 8 #[.slice A l.length c] w (LaidAll w l) := by
  obtain ⟨n, hn⟩ : ∃ n, n = l.length := ⟨_, rfl⟩
  have HR := Lib.hid h
  have HN := Lib.hid hn
  rw [← hn] at hl ⊢
  clear h hn
  by_cases h200 : 200 < n
  · have h1 : (200 : Int) < (n : Int) := by omega
    have HNO := Lib.hid (show ¬ GoodF l from fun hg => by have := hg.1; rw [← HN.out] at this; omega)
    clear h200
    go_enter Tryz.func8, Tryz.ntmps8
    go_wp2_with fail
    go_ret2
    exact LaidAll.no HNO.out (Chg.refl _ _)
  have h1 : ¬ (200 : Int) < (n : Int) := by omega
  go_enter Tryz.func8, Tryz.ntmps8
  go_upto_region 4 with fail
  obtain ⟨w2, hw2⟩ : ∃ w2, w2 = w.alloc (.cells #[.slice none 0 0] 55) := ⟨_, rfl⟩
  have h2 : WAt 55 w2 w.heap.size none 0 [] := by rw [hw2]; exact WAt.new _ _
  have hc2 : Chg (fun _ => False) w w2 := by rw [hw2]; exact (Chg.refl _ _).alloc _
  rw [← hw2]
  clear hw2
  obtain ⟨p, hpe⟩ : ∃ p, p = w.heap.size := ⟨_, rfl⟩
  have hp2 : w.heap.size ≤ p := by omega
  rw [← hpe] at h2 ⊢
  clear hpe
  go_wp2_with (go_at_call 25; (with_reducible refine (ru16_any p none 0 [] n w2 h2 (by simp)).mono ?_); rintro e w3 ⟨rfl, hw3⟩; obtain ⟨A3, c3, h3, hc3, hA3⟩ := hw3.own hc2 hp2 (fun x hx => by cases hx))
  rw [List.nil_append] at h3
  clear hw3 h2 hc2
  go_loopw [5] (fun i wr => ∃ k : Nat, k ≤ n ∧ i = .int .i64 k ∧ (∃ (B : Option Addr) (d : Nat), WAt 55 wr p B d (be (IntKind.u64.wrap n) 2 ++ manyB ((l.take k).map EvF.v)) ∧ ∀ x, blk B = some x → w.heap.size ≤ x) ∧ Chg (fun _ => False) w wr ∧ ∀ j (hj : j < l.length), j < k → l[j].right = true) (fun i _ => n - (intOf i).toNat)
  case atStart => exact ⟨0, by omega, rfl, ⟨A3, c3, by simpa [manyB] using h3, hA3⟩, hc3, fun j _ hj => absurd hj (by omega)⟩
  case round =>
    clear h3 hc3 hA3
    obtain ⟨k, hk, rfl, ⟨B, d, hW, hB⟩, hc, hall⟩ := hrel
    have HALL := Lib.hid hall
    clear hall
    by_cases hkn : k < n
    · have hkl : k < l.length := by rw [← HN.out]; exact hkn
      have hre := HR.out.still hc
      obtain ⟨b, o, hA, _⟩ := hre.rd.at_ (k := 0) (by rw [eoC_len]; omega)
      obtain ⟨p0, p1, p2, p3, p4, p5, p6, p7, p8⟩ := eoC_get l k hkl
      have q0 := hre.rd.cells hA _ _ p0
      have q1 := hre.rd.cells hA _ _ p1
      have q2 := hre.rd.cells hA _ _ p2
      have q3 := hre.rd.cells hA _ _ p3
      have q4 := hre.rd.cells hA _ _ p4
      have q5 := hre.rd.cells hA _ _ p5
      have q6 := hre.rd.cells hA _ _ p6
      have q7 := hre.rd.cells hA _ _ p7
      have q8 := hre.rd.cells hA _ _ p8
      rw [← Nat.add_assoc] at q1 q2 q3 q4 q5 q6 q7 q8
      clear p0 p1 p2 p3 p4 p5 p6 p7 p8
      have hx := hre.ev l[k] (List.getElem_mem _)
      have hsn := Lib.hid (manyB_snoc l k hkl)
      have hlen : (manyB ((l.take k).map EvF.v)).length ≤ k * 1002 := by
        have h2 := manyB_len (l := (l.take k).map EvF.v) (fun v hv => by
          obtain ⟨g, hg, rfl⟩ := List.mem_map.1 hv
          obtain ⟨j, hj, rfl⟩ := List.mem_iff_getElem.1 hg
          rw [List.length_take] at hj
          rw [EvF.right_v, List.getElem_take]
          exact HALL.out j (by omega) (by omega))
        rw [List.length_map, List.length_take] at h2
        have h4 : min k l.length = k := by omega
        rwa [h4] at h2
      have hnext : l[k].right = true → ∀ j (hj : j < l.length), j < k + 1 → l[j].right = true := fun hr j hj hjk => by
        by_cases e : j = k
        · subst e; exact hr
        · exact HALL.out j hj (by omega)
      have hno : ¬ l[k].right = true → ¬ GoodF l := fun hr hg => hr (hg.2 _ (List.getElem_mem _))
      obtain ⟨f, hf⟩ : ∃ f, f = l[k] := ⟨_, rfl⟩
      rw [← hf] at q0 q1 q2 q3 q4 q5 q6 q7 q8 hx hno hsn hnext
      obtain ⟨bs, hbs⟩ : ∃ bs, bs = be (IntKind.u64.wrap n) 2 ++ manyB ((l.take k).map EvF.v) := ⟨_, rfl⟩
      have HBS := Lib.hid hbs
      have hbl : bs.length ≤ 1000000 := by rw [hbs, List.length_append, be_length]; omega
      rw [← hbs] at hW
      have HNEXT := Lib.hid hnext
      clear hf hre hbs hlen hnext
      subst hA
      have j0 : (0 : Int) ≤ (k : Int) := by omega
      have j1 : (k : Int) < (n : Int) := by omega
      have hBl : ∀ y, wFoot p B y → y < wr.heap.size := hW.foot_lt
      by_cases hr : f.right = true
      · have hcl := rlay_yes f wr hx hr
        have hfl := f.lay_len hr
        have HGO := Lib.hid (HNEXT.out hr)
        obtain ⟨ys, hys⟩ : ∃ ys, ys = f.lay := ⟨_, rfl⟩
        rw [← hys] at hcl hfl hsn
        clear hys hr hx
        go_wp2_with (first
          | (go_at_call 26; (with_reducible refine hcl.mono ?_); rintro e w4 ⟨⟨A4, c4, rfl, hr4, hn4⟩, hc4⟩; have hW4 := hW.keep hc4 (fun h => h) (fun _ _ h => h); have hcr4 := hc.trans hc4 (fun x hx => hx.elim); have hoff : ys ≠ [] → Off (wFoot p B) A4 := fun _ x hx hs => by have h2 := hn4 x hx; have h3 := hBl x hs; omega)
          | (go_at_call 27; (with_reducible refine (rshort_yes p B d bs A4 c4 ys.length ys w4 hW4 hr4 hoff rfl (by omega) (by omega)).mono ?_); rintro e w5 ⟨rfl, hw5⟩; obtain ⟨B5, d5, h5, hc5, hB5⟩ := hw5.own hcr4 hp2 hB))
        go_roundw
        case rel => exact ⟨k + 1, by omega, by go_num, ⟨B5, d5, by rw [hsn.out, ← List.append_assoc, ← HBS.out]; exact h5, hB5⟩, hc5, HGO.out⟩
        case measure => simp [intOf]; omega
      · have hcl := rlay_no f wr hx hr
        have HNO := Lib.hid (hno hr)
        clear hno hr hx
        go_wp2_with (go_at_call 26; (with_reducible refine hcl.mono ?_); rintro e w4 ⟨rfl, hc4⟩)
        go_ret2
        exact LaidAll.no HNO.out (hc.trans hc4 (fun x hx => hx.elim))
    · have hke : k = l.length := by rw [← HN.out]; omega
      have hgood : GoodF l := ⟨by rw [← HN.out]; omega, fun f hf => by
        obtain ⟨j, hj, rfl⟩ := List.mem_iff_getElem.1 hf
        exact HALL.out j hj (by omega)⟩
      have HGOOD := Lib.hid hgood
      have hlb := laidF_len hgood
      have hW2 : WAt 55 wr p B d (laidF l) := by
        rw [hke, List.take_length] at hW
        unfold laidF allB
        rw [List.length_map, ← HN.out]
        exact hW
      obtain ⟨zs, hzs⟩ : ∃ zs, zs = laidF l := ⟨_, rfl⟩
      have HZ := Lib.hid hzs
      rw [← hzs] at hlb hW2
      have j1 : ¬ (k : Int) < (n : Int) := by omega
      have hcell := hW2.cell
      have HW2 := Lib.hid hW2
      clear hke hgood hW hzs hW2
      go_wp2_with fail
      go_ret2
      refine ⟨.inl ⟨HGOOD.out, ?_⟩, hc⟩
      rw [← HZ.out]
      exact ⟨B, d, rfl, own_cap2 HW2.out.own, HW2.out.rd, fun x hx => ⟨hB x hx, (own_lt HW2.out.own hx).2⟩⟩

/-- A world behind w in which nothing of it has turned. -/
structure Ext (w : World) where
  world : World
  chg : Chg (fun _ => False) w world
instance (w : World) : Nonempty (Ext w) := ⟨⟨w, Chg.refl _ _⟩⟩
/-- A drawn region that reads, and calls what turns nothing: one walk, in the text's order. -/
theorem wp_region_ext {P : Program} {id : Nat} {Q : Exit → Act → World → Prop} {a : Act} {w : World} {l : List Oper} (hm : P.follows .mixedOrders = true) (hB : Region.lexB .any l.toArray = true)
    (h : wpQuiet P l.toArray (fun w' => ∃ e : Ext w, w' = e.world) (fun a' => ∀ w', (∃ e : Ext w, w' = e.world) → Q .normal a' w') l a) : (Code.region id l.toArray true).wp P Q a w :=
  wp_region_quiet (C := fun w' => ∃ e : Ext w, w' = e.world) hm hB ⟨⟨_, (Chg.refl _ _).drew⟩, rfl⟩ (by simpa using h)
set_option maxHeartbeats 8000000 in
set_option maxRecDepth 20000 in
theorem rline_any (A : Option Addr) (c : Nat) (l : List EvF) (w : World) (h : RdEv w A l) (hl : l.length ≤ 1048576) :
    Calls Tryz.prog 10 #[.slice A l.length c] w (Tells2 (IsLine l) w) := by
  obtain ⟨n, hn⟩ : ∃ n, n = l.length := ⟨_, rfl⟩
  have HR := Lib.hid h
  have HN := Lib.hid hn
  rw [← hn] at hl ⊢
  clear h hn
  go_enter Tryz.func10, Tryz.ntmps10
  go_wp2_with fail
  go_loopw [3] (fun i w' => ∃ k : Nat, k ≤ n ∧ i = .int .i64 k ∧ LineTo l k ∧ Chg (fun _ => False) w w') (fun i _ => n - (intOf i).toNat)
  case atStart => exact ⟨0, Nat.zero_le _, rfl, LineTo.zero l, Chg.refl _ _⟩
  case round =>
    obtain ⟨k, hk, rfl, hlt, hc⟩ := hrel
    have HLT := Lib.hid hlt
    clear hlt
    by_cases hkn : k < n
    rotate_left
    · have hke : l.length = k := by rw [← HN.out]; omega
      have HE := Lib.hid (show IsLine l by unfold IsLine; rw [hke]; exact HLT.out)
      have j1 : ¬ (k : Int) < (n : Int) := by omega
      clear hke
      go_wp2_with fail
      go_ret
      exact Tells2.yes HE.out hc
    have hkl : k < l.length := by rw [← HN.out]; exact hkn
    have hre := HR.out.still hc
    obtain ⟨b, o, hA, _⟩ := hre.rd.at_ (k := 0) (by rw [eoC_len]; omega)
    obtain ⟨p0, p1, p2, p3, p4, p5, p6, p7, p8⟩ := eoC_get l k hkl
    have q0 := hre.rd.cells hA _ _ p0
    have q1 := hre.rd.cells hA _ _ p1
    have q2 := hre.rd.cells hA _ _ p2
    have q3 := hre.rd.cells hA _ _ p3
    have q4 := hre.rd.cells hA _ _ p4
    have q5 := hre.rd.cells hA _ _ p5
    have q6 := hre.rd.cells hA _ _ p6
    have q7 := hre.rd.cells hA _ _ p7
    have q8 := hre.rd.cells hA _ _ p8
    rw [← Nat.add_assoc] at q1 q2 q3 q4 q5 q6 q7 q8
    clear p0 p1 p2 p3 p4 p5 p6 p7 p8
    have hx := hre.ev l[k] (List.getElem_mem _)
    have hkm : k - 1 < l.length := by omega
    obtain ⟨g, hg⟩ : ∃ g, g = l[k - 1] := ⟨_, rfl⟩
    have hno : ¬ (l[k].right = true ∧ (0 < k → l[k].id = g.id + 1 ∧ g.ver ≤ l[k].ver ∧ g.tm ≤ l[k].tm)) → ¬ IsLine l := fun hb hL => hb (by rw [hg]; exact hL k hkl hkl)
    have hyes : (l[k].right = true ∧ (0 < k → l[k].id = g.id + 1 ∧ g.ver ≤ l[k].ver ∧ g.tm ≤ l[k].tm)) → LineTo l (k + 1) := fun hb => HLT.out.succ hkl hb.1 (by rw [hg] at hb; exact hb.2)
    have hpre : 0 < k → g.right = true ∧ (∀ u, Chg (fun _ => False) wr u → u.cell? ⟨b, o + (k - 1) * 9, none⟩ = some (.int .i64 g.id) ∧ u.cell? ⟨b, o + (k - 1) * 9 + 1, none⟩ = some (.int .i64 g.ver) ∧ u.cell? ⟨b, o + (k - 1) * 9 + 2, none⟩ = some (.int .i64 g.tm)) := fun h0 => by
      rw [hg]
      refine ⟨(HLT.out (k - 1) (by omega) (by omega)).1, fun u hu => ?_⟩
      have hru := hre.still hu
      obtain ⟨p0, p1, p2, p3, p4, p5, p6, p7, p8⟩ := eoC_get l (k - 1) hkm
      have r0 := hru.rd.cells hA _ _ p0
      have r1 := hru.rd.cells hA _ _ p1
      have r2 := hru.rd.cells hA _ _ p2
      rw [← Nat.add_assoc] at r1 r2
      exact ⟨r0, r1, r2⟩
    clear hg hkm
    obtain ⟨f, hf⟩ : ∃ f, f = l[k] := ⟨_, rfl⟩
    rw [← hf] at q0 q1 q2 q3 q4 q5 q6 q7 q8 hx hno hyes
    have HNO := Lib.hid hno
    have HYES := Lib.hid hyes
    have HPRE := Lib.hid hpre
    clear hno hyes hpre hf hre
    subst hA
    have j0 : (0 : Int) ≤ (k : Int) := by omega
    have j1 : (k : Int) < (n : Int) := by omega
    have hcall := fun (ex : Ext wr) => (rright_l f ex.world (hx.still ex.chg)).mono (R' := fun e w' => e = .returned (.bool f.right) ∧ ∃ e2 : Ext wr, w' = e2.world) (fun e w' h => ⟨h.1, ⟨w', ex.chg.trans h.2 (fun x hx => hx.elim)⟩, rfl⟩)
    obtain ⟨fr, hfr⟩ : ∃ fr, fr = f.right := ⟨_, rfl⟩
    rw [← hfr] at hcall
    have HFR := Lib.hid hfr
    have x0 : ∀ ex : Ext wr, ex.world.cell? ⟨b, o + k * 9, none⟩ = some (.int .i64 f.id) := fun ex => ex.chg.cell_some q0 (fun h => h)
    have x1 : ∀ ex : Ext wr, ex.world.cell? ⟨b, o + k * 9 + 1, none⟩ = some (.int .i64 f.ver) := fun ex => ex.chg.cell_some q1 (fun h => h)
    have x2 : ∀ ex : Ext wr, ex.world.cell? ⟨b, o + k * 9 + 2, none⟩ = some (.int .i64 f.tm) := fun ex => ex.chg.cell_some q2 (fun h => h)
    have x3 : ∀ ex : Ext wr, ex.world.cell? ⟨b, o + k * 9 + 3, none⟩ = some (.int .i64 f.ty) := fun ex => ex.chg.cell_some q3 (fun h => h)
    have x4 : ∀ ex : Ext wr, ex.world.cell? ⟨b, o + k * 9 + 4, none⟩ = some (.int .i64 f.node) := fun ex => ex.chg.cell_some q4 (fun h => h)
    have x5 : ∀ ex : Ext wr, ex.world.cell? ⟨b, o + k * 9 + 5, none⟩ = some (.int .i64 f.m) := fun ex => ex.chg.cell_some q5 (fun h => h)
    have x6 : ∀ ex : Ext wr, ex.world.cell? ⟨b, o + k * 9 + 6, none⟩ = some (.string f.nm) := fun ex => ex.chg.cell_some q6 (fun h => h)
    have x7 : ∀ ex : Ext wr, ex.world.cell? ⟨b, o + k * 9 + 7, none⟩ = some (.slice f.A f.bs.length f.c) := fun ex => ex.chg.cell_some q7 (fun h => h)
    have x8 : ∀ ex : Ext wr, ex.world.cell? ⟨b, o + k * 9 + 8, none⟩ = some (.slice f.D f.dl.length f.dc) := fun ex => ex.chg.cell_some q8 (fun h => h)
    clear hfr hx q0 q1 q2 q3 q4 q5 q6 q7 q8
    cases fr
    · have HE := Lib.hid (HNO.out (fun e => by rw [← HFR.out] at e; exact Bool.noConfusion e.1))
      go_upto_region 4 with fail
      refine wp_region_ext (by kernel_rfl) (by kernel_rfl) ?_
      repeat (go_big_quiet_step (exact hcall _))
      refine wpQuiet_nil ?_
      intro _ hw'
      obtain ⟨ee, hw''⟩ := hw'
      subst hw''
      have k2 := ee.chg
      go_wp2_with fail
      go_ret
      exact Tells2.no HE.out (hc.trans k2 (fun x hx => hx.elim))
    by_cases hk0 : k = 0
    · subst hk0
      have HE := Lib.hid (HYES.out ⟨HFR.out.symm, fun h0 => absurd h0 (by omega)⟩)
      have f3 : decide ((0 : Int) < ((0 : Nat) : Int)) = false := by simp
      simp only [Nat.zero_mul, Nat.add_zero] at x0 x1 x2 x3 x4 x5 x6 x7 x8
      go_upto_region 4 with fail
      refine wp_region_ext (by kernel_rfl) (by kernel_rfl) ?_
      repeat (go_big_quiet_step (exact hcall _))
      refine wpQuiet_nil ?_
      intro _ hw'
      obtain ⟨ee, hw''⟩ := hw'
      subst hw''
      have k2 := ee.chg
      go_wp2_with fail
      go_roundw
      case rel => exact ⟨1, by omega, rfl, HE.out, hc.trans k2 (fun x hx => hx.elim)⟩
      case measure => simp [intOf]; omega
    obtain ⟨k', rfl⟩ : ∃ k', k = k' + 1 := ⟨k - 1, by omega⟩
    obtain ⟨hgr, hgc⟩ := HPRE.out (by omega)
    rw [show k' + 1 - 1 = k' by omega] at hgc
    have hgid := (EvF.parts hgr).1
    have g0 := fun (ex : Ext wr) => (hgc ex.world ex.chg).1
    have g1 := fun (ex : Ext wr) => (hgc ex.world ex.chg).2.1
    have g2 := fun (ex : Ext wr) => (hgc ex.world ex.chg).2.2
    have f3 : decide ((0 : Int) < ((k' + 1 : Nat) : Int)) = true := by simp
    have f4 : IntKind.i64.wrap (((k' + 1 : Nat) : Int) - 1) = (k' : Int) := by rw [show ((k' + 1 : Nat) : Int) - 1 = (k' : Int) by omega]; exact IntWalk.i64_in _ (by omega)
    have f4' : IntKind.i64.wrap ((k' : Int) + 1 - 1) = (k' : Int) := by rw [show ((k' : Int) + 1 - 1) = (k' : Int) by omega]; exact IntWalk.i64_in _ (by omega)
    have f5 : (0 : Int) ≤ (k' : Int) := by omega
    have f6 : (k' : Int) < (n : Int) := by omega
    have f7 : IntKind.i64.wrap (g.id + 1) = g.id + 1 := IntWalk.i64_in _ (by omega)
    have hbad : ¬ (f.id = g.id + 1 ∧ g.ver ≤ f.ver ∧ g.tm ≤ f.tm) → ¬ IsLine l := fun hb => HNO.out (fun e => hb (e.2 (by omega)))
    have hgood : (f.id = g.id + 1 ∧ g.ver ≤ f.ver ∧ g.tm ≤ f.tm) → LineTo l (k' + 1 + 1) := fun hb => HYES.out ⟨HFR.out.symm, fun _ => hb⟩
    have HBAD := Lib.hid hbad
    have HGOOD := Lib.hid hgood
    clear hbad hgood hgc hgr
    by_cases h1 : f.id = g.id + 1
    rotate_left
    · have HE := Lib.hid (HBAD.out (fun e => h1 e.1))
      have e1 : (f.id != g.id + 1) = true := by simpa using h1
      have e2 : decide (f.id = g.id + 1) = false := by simpa using h1
      clear h1
      go_upto_region 4 with fail
      refine wp_region_ext (by kernel_rfl) (by kernel_rfl) ?_
      repeat (go_big_quiet_step (exact hcall _))
      refine wpQuiet_nil ?_
      intro _ hw'
      obtain ⟨ee, hw''⟩ := hw'
      subst hw''
      have k2 := ee.chg
      go_wp2_with fail
      go_ret
      exact Tells2.no HE.out (hc.trans k2 (fun x hx => hx.elim))
    have e1 : (f.id != g.id + 1) = false := by simpa using h1
    have e2 : decide (f.id = g.id + 1) = true := by simpa using h1
    have H1 := Lib.hid h1
    clear h1
    by_cases h2 : f.ver < g.ver
    · have HE := Lib.hid (HBAD.out (fun e => by omega))
      have e3 : decide (f.ver < g.ver) = true := by simpa using h2
      go_upto_region 4 with fail
      refine wp_region_ext (by kernel_rfl) (by kernel_rfl) ?_
      repeat (go_big_quiet_step (exact hcall _))
      refine wpQuiet_nil ?_
      intro _ hw'
      obtain ⟨ee, hw''⟩ := hw'
      subst hw''
      have k2 := ee.chg
      go_wp2_with fail
      go_ret
      exact Tells2.no HE.out (hc.trans k2 (fun x hx => hx.elim))
    have e3 : decide (f.ver < g.ver) = false := by simpa using h2
    by_cases h3 : f.tm < g.tm
    · have HE := Lib.hid (HBAD.out (fun e => by omega))
      have e4 : decide (f.tm < g.tm) = true := by simpa using h3
      go_upto_region 4 with fail
      refine wp_region_ext (by kernel_rfl) (by kernel_rfl) ?_
      repeat (go_big_quiet_step (exact hcall _))
      refine wpQuiet_nil ?_
      intro _ hw'
      obtain ⟨ee, hw''⟩ := hw'
      subst hw''
      have k2 := ee.chg
      go_wp2_with fail
      go_ret
      exact Tells2.no HE.out (hc.trans k2 (fun x hx => hx.elim))
    have e4 : decide (f.tm < g.tm) = false := by simpa using h3
    have HE := Lib.hid (HGOOD.out ⟨H1.out, by omega, by omega⟩)
    go_upto_region 4 with fail
    refine wp_region_ext (by kernel_rfl) (by kernel_rfl) ?_
    repeat (go_big_quiet_step (exact hcall _))
    refine wpQuiet_nil ?_
    intro _ hw'
    obtain ⟨ee, hw''⟩ := hw'
    subst hw''
    have k2 := ee.chg
    go_wp2_with fail
    go_roundw
    case rel => exact ⟨k' + 1 + 1, by omega, by go_num, HE.out, hc.trans k2 (fun x hx => hx.elim)⟩
    case measure => simp [intOf]; omega

end Go.Proofs.YtngfimjbgopgjaaGreatDoor

/- Contract of cutoverref8.ReadAll at any bytes (gen_rfall.py). -/
namespace Go.Proofs.YtngfimjbgopgjaaGreatDoor
open Go.RowKit
set_option linter.unusedVariables false

set_option maxHeartbeats 8000000 in
set_option maxRecDepth 20000 in
theorem rreadAll_any (B : Option Addr) (n d : Nat) (xs : List Int) (w : World) (h : Rd w B (xs.map (Value.int .u8))) (hn : xs.length = n) (hnd : n ≤ d) (hBo : ∀ x, blk B = some x → x < w.heap.size) (hn2 : n ≤ 140737488355328) (hby : ∀ x ∈ xs, 0 ≤ x ∧ x ≤ 255) :
    Calls Tryz.prog 14 #[.slice B n d] w (ReadAllGave w xs) := by
  obtain ⟨i0, hi, hz0, hz1, hz2⟩ := info_parts evInfo
  obtain ⟨⟨nn, l1, r1⟩, x1⟩ : ∃ r, numR false xs 2 = r := ⟨_, rfl⟩
  have hbd := numR2_bd (lack := false) hby
  rw [x1] at hbd
  simp only at hbd
  obtain ⟨N, rfl⟩ : ∃ N : Nat, nn = (N : Int) := ⟨nn.toNat, by omega⟩
  have hN2 : N ≤ 65535 := by omega
  have HST := Lib.hid (AllHyp.start x1)
  have X1 := Lib.hid x1
  obtain ⟨w1, hw1⟩ : ∃ w1, w1 = w.alloc (.cells #[.slice B n d, .bool false] 67) := ⟨_, rfl⟩
  obtain ⟨p, hpe⟩ : ∃ p, p = w.heap.size := ⟨_, rfl⟩
  have hc1 : Chg (fun _ => False) w w1 := by rw [hw1]; exact (Chg.refl _ _).alloc _
  have r1' : RAt 67 w1 p B d false xs := by
    refine ⟨?_, h.keep hc1 (fun _ _ h => h), by omega, fun x hx e => by have := hBo x hx; have : x = p := e; omega, by omega, hby, fun x hx => by have := hBo x hx; have := hc1.size; omega⟩
    rw [hw1, hpe, hn]
    exact heap_alloc_new w _
  have hp : w.heap.size ≤ p := by omega
  have HB := Lib.hid h
  have HN := Lib.hid hn
  have HBO := Lib.hid hBo
  have hcv := fun (w' : World) (C : Option Addr) (n' e : Nat) (ys : List Int) (g : ys.length = n') (h : Rd w' C (ys.map (Value.int .u8))) => run_convert_rd (P := Tryz.prog) w' 24 9 5 Tryz.underlying24 Tryz.underlying5 Tryz.underlying9 C n' e ys g h
  have HCV := Lib.hid hcv
  clear x1 h hn hbd hcv hBo
  go_enter Tryz.func14, Tryz.ntmps14
  go_upto_region 3 with fail
  rw [← hpe, ← hw1]
  clear hw1 hpe
  go_wp2_with (go_at_call 38; (with_reducible refine (rgu16_any p B d false xs w1 r1').mono ?_); rw [X1.out]; rintro e w2 ⟨rfl, A2, c2, r2, hb2, hd2⟩)
  have hc2 : Chg (fun _ => False) w w2 := hc1.trans hd2 (fun x hx => .inr (by rw [hx]; exact hp))
  have hA2 : ∀ x, blk A2 = some x → x < w.heap.size := fun x hx => by
    rcases hb2 with e | e
    · exact HBO.out x (by rw [← e]; exact hx)
    · rw [e] at hx; cases hx
  clear r1' hc1 hd2 hb2
  go_loopw [5, 6] (fun a i wr => ∃ (k : Nat) (A : Option Addr) (c : Nat) (l : List EvF) (lk : Bool) (ys : List Int) (Ar : Option Addr) (cr : Nat), k ≤ N ∧ a = .slice A k c ∧ i = .int .i64 ((N : Int) - k) ∧ l.length = k ∧ OwnL w wr A c l ∧ (∀ f ∈ l, EvOff (· = p) f) ∧ RAt 67 wr p Ar cr lk ys ∧ (∀ x, In A x → x ≠ p) ∧ (∀ x, blk Ar = some x → x < w.heap.size) ∧ AllHyp xs N k l lk ys) (fun _ i _ => (intOf i).toNat)
  case atStart => exact ⟨0, none, 0, [], l1, r1, A2, c2, by omega, rfl, by simp, rfl, ⟨World.ownsRow_nil _ _ _ _, (fun f hf => by cases hf), (fun f hf => by cases hf), hc2⟩, (fun f hf => by cases hf), r2, (fun x hx => by cases hx), hA2, HST.out⟩
  case round =>
    clear r2 hc2 hA2
    obtain ⟨k, A, c, l, lk, ys, Ar, cr, hk, rfl, rfl, hl, hL, hY, hr, hap, hAr, hH⟩ := hrel
    have HLK := Lib.hid hl
    have HL := Lib.hid hL
    have HY := Lib.hid hY
    have HH := Lib.hid hH
    have hlc := hr.cell1
    clear hl hL hY hH
    go_upto_region 4 with fail
    go_cut [25] from 17 to 24 (fun r w' => (∃ b' : Bool, r = .bool b' ∧ (b' = true ↔ (k < N ∧ lk = false))) ∧ w' = wr)
    case first =>
      by_cases hkn : k < N
      · have n1 : (0 : Int) < (N : Int) - (k : Int) := by omega
        cases lk
        · go_wp2_with fail
          go_meet
          exact ⟨⟨_, rfl, by simp [hkn]⟩, rfl⟩
        · go_wp2_with fail
          go_meet
          exact ⟨⟨_, rfl, by simp⟩, rfl⟩
      · have n1 : ¬ (0 : Int) < (N : Int) - (k : Int) := by omega
        go_wp2_with fail
        go_meet
        exact ⟨⟨_, rfl, by simp [hkn]⟩, rfl⟩
    obtain ⟨⟨b', rfl, hb'⟩, rfl⟩ := hcut
    cases b'
    rotate_left
    · obtain ⟨hkn, rfl⟩ := hb'.1 rfl
      clear hb' hlc
      obtain ⟨⟨zs, lk', ys'⟩, hs⟩ : ∃ r, shortR false ys = r := ⟨_, rfl⟩
      have hzb := shortR_bytes (lack := false) hr.byt
      rw [hs] at hzb
      have hzl := shortR_le (lack := false) (xs := ys)
      rw [hs] at hzl
      simp only at hzb hzl
      have hyl := hr.len
      have HS := Lib.hid hs
      have hpl := hr.lt
      clear hs
      go_upto_region 7 with (go_at_call 39; (with_reducible refine (rgshortL_any p Ar cr false ys wc hr).mono ?_); rw [HS.out]; rintro e w3 ⟨B3, d3, rfl, hcap, hB3, hBl, hst⟩; obtain ⟨A3, c3, r3, hb3, hd3⟩ := hst)
      try simp only at r3 hcap hB3
      have hlc3 := r3.cell1
      have hc3 : Chg (fun _ => False) w w3 := HL.out.chg.trans hd3 (fun x hx => .inr (by rw [hx]; exact hp))
      have hL3 := HL.out.past hd3 (fun x hx e => hap x hx e) HY.out (fun x hx => by rw [hx]; exact hp)
      cases lk'
      rotate_left
      · have HNV : Hid (¬ ∃ vs, Good vs ∧ allB vs = xs) := Lib.hid (fun ⟨vs, hg, he⟩ => by
          obtain ⟨_, _, h2, _⟩ := HH.out.take hkn HS.out vs hg he
          exact Bool.noConfusion h2)
        have hla := rlayAll_any A c l w3 hL3.rd (by rw [HLK.out]; omega)
        rw [HLK.out] at hla
        have HLA := Lib.hid hla
        have HR3 := Lib.hid r3
        clear hla hL3 hzb hzl hB3 hBl r3
        by_cases hg : GoodF l
        · have hcl := HLA.out.mono (fun e w' h => h.good hg)
          obtain ⟨zs', hzs⟩ : ∃ zs', zs' = laidF l := ⟨_, rfl⟩
          rw [← hzs] at hcl
          clear hg hzs
          go_wp2_with (go_at_call 8; (with_reducible refine hcl.mono ?_); rintro e w6 ⟨⟨A6, c6, rfl, _, hrd6, _⟩, hc6⟩; have lc6 := (HR3.out.keep hc6 (fun h => h) (fun _ _ h => h)).cell1)
          go_ret2
          exact ⟨.inr ⟨rfl, HNV.out⟩, hc3.trans hc6 (fun x hx => hx.elim)⟩
        · have hcl := HLA.out.mono (fun e w' h => h.bad hg)
          clear hg
          go_wp2_with (go_at_call 8; (with_reducible refine hcl.mono ?_); rintro e w6 ⟨rfl, hc6⟩)
          go_ret2
          exact ⟨.inr ⟨rfl, HNV.out⟩, hc3.trans hc6 (fun x hx => hx.elim)⟩
      have hrd := rreadE_any B3 zs.length d3 zs w3 hB3.1 rfl hcap hBl (by omega) hzb
      by_cases hv : ∃ v : EvV, v.right = true ∧ (∀ z ∈ v.nb, 0 ≤ z ∧ z ≤ 255) ∧ v.lay = zs
      rotate_left
      · have HNV := Lib.hid (HH.out.none hkn HS.out hv)
        have HV := Lib.hid hv
        clear hv
        go_wp2_with (go_at_call 40; (with_reducible refine hrd.mono ?_); rintro e w4 hE; obtain ⟨rfl, hc4⟩ := hE.no HV.out)
        go_ret2
        exact ⟨.inr ⟨rfl, HNV.out⟩, hc3.trans (hc4.alloc _) (fun x hx => hx.elim)⟩
      have HV := Lib.hid hv
      have HL3 := Lib.hid hL3
      have HR3 := Lib.hid r3
      have hp3 : p < w3.heap.size := r3.lt
      clear hv hL3 r3
      go_upto_region 9 with (go_at_call 40; (with_reducible refine hrd.mono ?_); rintro e w4 hE; obtain ⟨⟨⟨id, ver, tm, ty, node, m, nm, A7, c7, bs, D7, dc, dl⟩, he, hz, hzr, hzy, hzo⟩, hc4⟩ := hE.yes HV.out; simp only [EvF.val, EvF.row] at he; subst he; have HZ := Lib.hid hz; have HZR := Lib.hid hzr; have HZY := Lib.hid hzy; have HZO := Lib.hid hzo; clear hz hzr hzy hzo)
      clear hrd hlc3
      obtain ⟨w5, hw5⟩ : ∃ w5, w5 = w4.alloc (.cells #[.int .i64 id, .int .i64 ver, .int .i64 tm, .int .i64 ty, .int .i64 node, .int .i64 m, .string nm, .slice A7 bs.length c7, .slice D7 dl.length dc] 32) := ⟨_, rfl⟩
      have bx : BoxAt w5 w4.heap.size 32 #[.int .i64 id, .int .i64 ver, .int .i64 tm, .int .i64 ty, .int .i64 node, .int .i64 m, .string nm, .slice A7 bs.length c7, .slice D7 dl.length dc] := by rw [hw5]; exact BoxAt.new w4 _ _
      have hc5 : Chg (fun _ => False) w3 w5 := by rw [hw5]; exact hc4.alloc _
      have hz5 : EvS w5 ⟨id, ver, tm, ty, node, m, nm, A7, c7, bs, D7, dc, dl⟩ := HZ.out.still (by rw [hw5]; exact (Chg.refl _ _).alloc _)
      obtain ⟨gx, hgx⟩ : ∃ gx, gx = w4.heap.size := ⟨_, rfl⟩
      rw [← hgx] at bx ⊢
      rw [← hw5]
      clear hw5 hgx
      have hL5 := HL3.out.still hc5
      have r5 := HR3.out.keep hc5 (fun h => h) (fun _ _ h => h)
      have hown5 := hL5.own
      rw [HLK.out] at hown5
      have HZ5 := Lib.hid hz5
      have HL5 := Lib.hid hL5
      have hl1 : k + 1 ≤ maxLen := by simp only [maxLen]; omega
      have hl2 : (k + 1) * 112 ≤ 140737488355328 := by omega
      have hbase : w.heap.size ≤ (w5.alloc (.cells #[.int .i64 id, .int .i64 ver, .int .i64 tm, .int .i64 ty, .int .i64 node, .int .i64 m, .string nm, .slice A7 bs.length c7, .slice D7 dl.length dc] 32)).heap.size := (hL5.chg.alloc _).size
      have s0 := bx.cell 0 rfl
      have s1 := bx.cell 1 rfl
      have s2 := bx.cell 2 rfl
      have s3 := bx.cell 3 rfl
      have s4 := bx.cell 4 rfl
      have s5 := bx.cell 5 rfl
      have s6 := bx.cell 6 rfl
      have s7 := bx.cell 7 rfl
      have s8 := bx.cell 8 rfl
      clear hz5 hL5
      go_wp2_with (at_builtin; refine wpList_append_rd _ rfl (.tmp 41) (.tmp 43) 27 rfl w.heap.size 32 i0 _ 9 112 Tryz.underlying27 hi hz0 hz1 hz2 rfl (by decide) A k c (eoC l) rfl (World.ownsRow.alloc hown5 _) (some ⟨w5.heap.size, 0, none⟩) 1 1 (eoC [⟨id, ver, tm, ty, node, m, nm, A7, c7, bs, D7, dc, dl⟩]) rfl rfl (Rd.newRow w5 _ _ _ rfl) (eoC_one _) hl1 hl2 hbase ?_; intro A8 c8 w8 hown8 hg8 hb8)
      clear s0 s1 s2 s3 s4 s5 s6 s7 s8
      have hca := (Chg.refl (fun _ => False) w5).alloc (.cells #[.int .i64 id, .int .i64 ver, .int .i64 tm, .int .i64 ty, .int .i64 node, .int .i64 m, .string nm, .slice A7 bs.length c7, .slice D7 dl.length dc] 32)
      have hL6 := HL5.out.still hca
      have hz6 := HZ5.out.still hca
      have r6 := r5.keep hca (fun h => h) (fun _ _ h => h)
      have hsz := hca.size
      have hA3 : ∀ x, blk A3 = some x → x < w.heap.size := fun x hx => by
        rcases hb3 with e | e
        · exact hAr x (by rw [← e]; exact hx)
        · rw [e] at hx; cases hx
      have hA8 : ∀ x, In A8 x → In A x ∨ w5.heap.size ≤ x := fun x hx => by
        rcases hb8 with e | e
        · exact .inl (show blk A = some x by rw [← e]; exact hx)
        · have h1 : blk A8 = some x := hx
          rw [e] at h1
          injection h1 with h1
          exact .inr (by omega)
      have hz3 : w3.heap.size ≤ w5.heap.size := hc5.size
      have r8 : RAt 67 w8 p A3 c3 false ys' := r6.keep hg8 (fun hi => hap p hi rfl) (fun y hy hi => by have h1 := hA3 y hy; have h2 := (own_lt hL6.own hi).1; omega)
      have hL8 : OwnL w w8 A8 c8 (l ++ [⟨id, ver, tm, ty, node, m, nm, A7, c7, bs, D7, dc, dl⟩]) := by
        refine hL6.snoc hz6 (HZO.out.mono (fun x hx => ?_)) (by rw [HLK.out]; exact hown8) hg8 hb8
        have h1 := (own_lt HL3.out.own hx).2
        omega
      have hY8 : ∀ f ∈ l ++ [(⟨id, ver, tm, ty, node, m, nm, A7, c7, bs, D7, dc, dl⟩ : EvF)], EvOff (· = p) f := fun f hf => by
        rcases List.mem_append.1 hf with hf | hf
        · exact HY.out f hf
        · rw [List.mem_singleton.1 hf]
          exact HZO.out.mono (fun x hx => by rw [hx]; exact hp3)
      have hap8 : ∀ x, In A8 x → x ≠ p := fun x hx => by
        rcases hA8 x hx with h1 | h1
        · exact hap x h1
        · exact fun e => by omega
      have hH8 : AllHyp xs N (k + 1) (l ++ [⟨id, ver, tm, ty, node, m, nm, A7, c7, bs, D7, dc, dl⟩]) false ys' := HH.out.next hkn HS.out HZR.out HZY.out
      have hk8 : (l ++ [(⟨id, ver, tm, ty, node, m, nm, A7, c7, bs, D7, dc, dl⟩ : EvF)]).length = k + 1 := by rw [List.length_append, HLK.out]; rfl
      obtain ⟨l8, hl8⟩ : ∃ l8, l8 = l ++ [(⟨id, ver, tm, ty, node, m, nm, A7, c7, bs, D7, dc, dl⟩ : EvF)] := ⟨_, rfl⟩
      rw [← hl8] at hL8 hY8 hH8 hk8
      clear hl8 hown8
      go_roundw
      case rel => exact ⟨k + 1, A8, c8, l8, false, ys', A3, c3, by omega, rfl, by go_num, hk8, hL8, hY8, r8, hap8, hA3, hH8⟩
      case measure => simp [intOf]; omega
    · have hno : ¬ (k < N ∧ lk = false) := fun e => Bool.noConfusion (hb'.2 e)
      have hla := rlayAll_any A c l wc HL.out.rd (by rw [HLK.out]; omega)
      rw [HLK.out] at hla
      have HLA := Lib.hid hla
      have HNO := Lib.hid hno
      have HR := Lib.hid hr
      clear hb' hla hno hr hlc
      by_cases hg : GoodF l
      rotate_left
      · have HBAD := Lib.hid (HH.out.bad HNO.out (fun e => hg e.1))
        have hcl := HLA.out.mono (fun e w' h => h.bad hg)
        clear hg
        go_wp2_with (go_at_call 8; (with_reducible refine hcl.mono ?_); rintro e w6 ⟨rfl, hc6⟩)
        go_ret2
        exact ⟨.inr ⟨rfl, HBAD.out⟩, HL.out.chg.trans hc6 (fun x hx => hx.elim)⟩
      have hcl := HLA.out.mono (fun e w' h => h.good hg)
      have HG := Lib.hid hg
      cases lk
      rotate_left
      · have HBAD := Lib.hid HH.out.lacks
        obtain ⟨zs', hzs⟩ : ∃ zs', zs' = laidF l := ⟨_, rfl⟩
        rw [← hzs] at hcl
        clear hg hzs
        go_wp2_with (go_at_call 8; (with_reducible refine hcl.mono ?_); rintro e w6 ⟨⟨A6, c6, rfl, _, hrd6, _⟩, hc6⟩; have lc6 := (HR.out.keep hc6 (fun h => h) (fun _ _ h => h)).cell1)
        go_ret2
        exact ⟨.inr ⟨rfl, HBAD.out⟩, HL.out.chg.trans hc6 (fun x hx => hx.elim)⟩
      by_cases heq : laidF l = xs
      · have HEQ := Lib.hid heq
        obtain ⟨zs', hzs⟩ : ∃ zs', zs' = laidF l := ⟨_, rfl⟩
        rw [← hzs] at hcl heq
        have HZS := Lib.hid heq
        obtain ⟨sa, hsa⟩ : ∃ sa, sa = strOfNums xs := ⟨_, rfl⟩
        have HSA := Lib.hid hsa
        clear hg heq hzs hsa
        go_wp2_with (go_at_call 8; (with_reducible refine hcl.mono ?_); rintro e w6 ⟨⟨A6, c6, rfl, _, hrd6, _⟩, hc6⟩; have lc6 := (HR.out.keep hc6 (fun h => h) (fun _ _ h => h)).cell1; have v1 := HCV.out w6 A6 _ c6 zs' rfl hrd6; rw [HZS.out, ← HSA.out, ← HZS.out] at v1; have v2 := HCV.out w6 B n d xs HN.out ((HB.out.keep HL.out.chg (fun _ _ h => h)).keep hc6 (fun _ _ h => h)); rw [← HSA.out] at v2)
        go_ret2
        exact ⟨.inl ⟨A, c, l, by rw [HLK.out]; rfl, (HL.out.still hc6).rd, HG.out, HEQ.out⟩, HL.out.chg.trans hc6 (fun x hx => hx.elim)⟩
      · have HBAD := Lib.hid (HH.out.bad HNO.out (fun e => heq e.2))
        have hzb' := laidF_byt (l := l) (fun f hf => (HL.out.ev f hf).byt)
        obtain ⟨zs', hzs⟩ : ∃ zs', zs' = laidF l := ⟨_, rfl⟩
        rw [← hzs] at hcl heq hzb'
        have hse : ¬ strOfNums zs' = strOfNums xs := fun e => heq ((strs_iff hzb' hby).1 e)
        obtain ⟨sa, hsa⟩ : ∃ sa, sa = strOfNums zs' := ⟨_, rfl⟩
        obtain ⟨sb, hsb⟩ : ∃ sb, sb = strOfNums xs := ⟨_, rfl⟩
        rw [← hsa, ← hsb] at hse
        have HSA := Lib.hid hsa
        have HSB := Lib.hid hsb
        have f1 : ¬ sa.toList = sb.toList := fun e => hse (toList_inj e)
        have f2 : (sa.toList == sb.toList) = false := by simpa using f1
        have f3 : decide (sa = sb) = false := by simpa using hse
        clear hg heq hzs hsa hsb hzb'
        go_wp2_with (go_at_call 8; (with_reducible refine hcl.mono ?_); rintro e w6 ⟨⟨A6, c6, rfl, _, hrd6, _⟩, hc6⟩; have lc6 := (HR.out.keep hc6 (fun h => h) (fun _ _ h => h)).cell1; have v1 := HCV.out w6 A6 _ c6 zs' rfl hrd6; rw [← HSA.out] at v1; have v2 := HCV.out w6 B n d xs HN.out ((HB.out.keep HL.out.chg (fun _ _ h => h)).keep hc6 (fun _ _ h => h)); rw [← HSB.out] at v2)
        go_ret2
        exact ⟨.inr ⟨rfl, HBAD.out⟩, HL.out.chg.trans hc6 (fun x hx => hx.elim)⟩
end Go.Proofs.YtngfimjbgopgjaaGreatDoor
