/- Contract of cutoverref8.Same at any two events (gen_rfsamee.py). -/
import Derived.Test.YtngfimjbgopgjaaGreatDoorRfSame
namespace Go.Proofs.YtngfimjbgopgjaaGreatDoor
open Go.RowKit
set_option linter.unusedVariables false

theorem strs_iff {bs bs' : List Int} (h : ∀ z ∈ bs, 0 ≤ z ∧ z ≤ 255) (h' : ∀ z ∈ bs', 0 ≤ z ∧ z ≤ 255) : strOfNums bs = strOfNums bs' ↔ bs = bs' :=
  ⟨fun e => by rw [← strB_back bs h, e, strB_back bs' h'], fun e => by rw [e]⟩
theorem toList_inj {a b : ByteArray} (h : a.toList = b.toList) : a = b := by
  rw [ByteArray.toList_eq, ByteArray.toList_eq] at h
  exact ByteArray.ext (Array.toList_inj.1 h)

set_option maxHeartbeats 4000000 in
set_option maxRecDepth 20000 in
theorem rsameG_any (id ver tm ty node m : Int) (nm : ByteArray) (A : Option Addr) (c : Nat) (bs : List Int) (D : Option Addr) (dc : Nat) (dl : List Df) (id' ver' tm' ty' node' m' : Int) (nm' : ByteArray) (B : Option Addr) (c' : Nat) (bs' : List Int) (E : Option Addr) (dc' : Nat) (dl' : List Df) (w : World)
    (hA : Rd w A (bs.map (Value.int .u8))) (hB : Rd w B (bs'.map (Value.int .u8))) (hD : RdDf w D dl) (hE : RdDf w E dl') (hdl : dl.length ≤ 1048576) (hdl' : dl'.length ≤ 1048576) (h1 : ∀ d ∈ dl, d.ns.length ≤ 1048576) (h2 : ∀ d ∈ dl', d.ns.length ≤ 1048576) :
    Calls Tryz.prog 41 #[.agg #[.int .i64 id, .int .i64 ver, .int .i64 tm, .int .i64 ty, .int .i64 node, .int .i64 m, .string nm, .slice A bs.length c, .slice D dl.length dc], .agg #[.int .i64 id', .int .i64 ver', .int .i64 tm', .int .i64 ty', .int .i64 node', .int .i64 m', .string nm', .slice B bs'.length c', .slice E dl'.length dc']] w fun e w' => e = .returned (.bool (decide (id = id') && (decide (ver = ver') && (decide (tm = tm') && (decide (ty = ty') && (decide (node = node') && (decide (m = m') && (decide (nm = nm') && (decide (strOfNums bs = strOfNums bs') && (decide (dl.map Df.v = dl'.map Df.v))))))))))) ∧ Chg (fun _ => False) w w' := by
  have bP := two_P w 32 32 #[.int .i64 id, .int .i64 ver, .int .i64 tm, .int .i64 ty, .int .i64 node, .int .i64 m, .string nm, .slice A bs.length c, .slice D dl.length dc] #[.int .i64 id', .int .i64 ver', .int .i64 tm', .int .i64 ty', .int .i64 node', .int .i64 m', .string nm', .slice B bs'.length c', .slice E dl'.length dc']
  have bE := two_E w 32 32 #[.int .i64 id, .int .i64 ver, .int .i64 tm, .int .i64 ty, .int .i64 node, .int .i64 m, .string nm, .slice A bs.length c, .slice D dl.length dc] #[.int .i64 id', .int .i64 ver', .int .i64 tm', .int .i64 ty', .int .i64 node', .int .i64 m', .string nm', .slice B bs'.length c', .slice E dl'.length dc']
  have hc0 : Chg (fun _ => False) w ((w.alloc (.cells #[.int .i64 id, .int .i64 ver, .int .i64 tm, .int .i64 ty, .int .i64 node, .int .i64 m, .string nm, .slice A bs.length c, .slice D dl.length dc] 32)).alloc (.cells #[.int .i64 id', .int .i64 ver', .int .i64 tm', .int .i64 ty', .int .i64 node', .int .i64 m', .string nm', .slice B bs'.length c', .slice E dl'.length dc'] 32)) := ((Chg.refl _ _).alloc _).alloc _
  have hA1 := hA.keep hc0 (fun _ _ h => h)
  have hB1 := hB.keep hc0 (fun _ _ h => h)
  have hD1 := hD.still hc0
  have hE1 := hE.still hc0
  have cA := run_convert_rd (P := Tryz.prog) _ 24 9 5 Tryz.underlying24 Tryz.underlying5 Tryz.underlying9 A bs.length c bs rfl hA1
  have cB := run_convert_rd (P := Tryz.prog) _ 24 9 5 Tryz.underlying24 Tryz.underlying5 Tryz.underlying9 B bs'.length c' bs' rfl hB1
  obtain ⟨sa, hsa⟩ : ∃ sa, sa = strOfNums bs := ⟨_, rfl⟩
  obtain ⟨sb, hsb⟩ : ∃ sb, sb = strOfNums bs' := ⟨_, rfl⟩
  rw [← hsa] at cA ⊢
  rw [← hsb] at cB ⊢
  obtain ⟨t9, e9⟩ : ∃ t, decide (dl.map Df.v = dl'.map Df.v) = t := ⟨_, rfl⟩
  rw [e9]
  have E9 := Lib.hid e9
  clear e9 hsa hsb hA hB hA1 hB1
  by_cases h_id : id = id'
  · subst h_id
    by_cases h_ver : ver = ver'
    · subst h_ver
      by_cases h_tm : tm = tm'
      · subst h_tm
        by_cases h_ty : ty = ty'
        · subst h_ty
          by_cases h_node : node = node'
          · subst h_node
            by_cases h_m : m = m'
            · subst h_m
              by_cases h_nm : nm = nm'
              · subst h_nm
                by_cases h_sa : sa = sb
                · subst h_sa
                  go_enter Tryz.func41, Tryz.ntmps41
                  go_wp2_with (go_at_call 76; go_must (refine (rsameDefs_any D E dl.length dl'.length dc dc' dl dl' _ hD1 hE1 rfl rfl hdl hdl' h1 h2).mono ?_; rintro e w3 ⟨rfl, hc3⟩; rw [E9.out]))
                  go_ret
                  exact ⟨by simp_all, hc0.trans hc3 (fun x hx => hx.elim)⟩
                · have u1 : decide (sa = sb) = false := by simpa using h_sa
                  have u3 : ¬ sa.toList = sb.toList := fun e => h_sa (toList_inj e)
                  have u4 : (sa.toList == sb.toList) = false := by simpa using u3
                  go_enter Tryz.func41, Tryz.ntmps41
                  go_wp2_with fail
                  go_ret
                  exact ⟨by simp_all, hc0⟩
              · have u1 : decide (nm = nm') = false := by simpa using h_nm
                have u3 : ¬ nm.toList = nm'.toList := fun e => h_nm (toList_inj e)
                have u4 : (nm.toList == nm'.toList) = false := by simpa using u3
                go_enter Tryz.func41, Tryz.ntmps41
                go_wp2_with fail
                go_ret
                exact ⟨by simp_all, hc0⟩
            · have u1 : (m == m') = false := by simpa using h_m
              have u2 : decide (m = m') = false := by simpa using h_m
              go_enter Tryz.func41, Tryz.ntmps41
              go_wp2_with fail
              go_ret
              exact ⟨by simp_all, hc0⟩
          · have u1 : (node == node') = false := by simpa using h_node
            have u2 : decide (node = node') = false := by simpa using h_node
            go_enter Tryz.func41, Tryz.ntmps41
            go_wp2_with fail
            go_ret
            exact ⟨by simp_all, hc0⟩
        · have u1 : (ty == ty') = false := by simpa using h_ty
          have u2 : decide (ty = ty') = false := by simpa using h_ty
          go_enter Tryz.func41, Tryz.ntmps41
          go_wp2_with fail
          go_ret
          exact ⟨by simp_all, hc0⟩
      · have u1 : (tm == tm') = false := by simpa using h_tm
        have u2 : decide (tm = tm') = false := by simpa using h_tm
        go_enter Tryz.func41, Tryz.ntmps41
        go_wp2_with fail
        go_ret
        exact ⟨by simp_all, hc0⟩
    · have u1 : (ver == ver') = false := by simpa using h_ver
      have u2 : decide (ver = ver') = false := by simpa using h_ver
      go_enter Tryz.func41, Tryz.ntmps41
      go_wp2_with fail
      go_ret
      exact ⟨by simp_all, hc0⟩
  · have u1 : (id == id') = false := by simpa using h_id
    have u2 : decide (id = id') = false := by simpa using h_id
    go_enter Tryz.func41, Tryz.ntmps41
    go_wp2_with fail
    go_ret
    exact ⟨by simp_all, hc0⟩
theorem rsame_f (f f' : EvF) (w : World) (h : EvRd w f) (h' : EvRd w f') (hb : ∀ z ∈ f.bs, 0 ≤ z ∧ z ≤ 255) (hb' : ∀ z ∈ f'.bs, 0 ≤ z ∧ z ≤ 255) : Calls Tryz.prog 41 #[f.val, f'.val] w fun e w' => (∃ b : Bool, e = .returned (.bool b) ∧ (b = true ↔ f.v = f'.v)) ∧ Chg (fun _ => False) w w' := by
  have h1 := rsameG_any f.id f.ver f.tm f.ty f.node f.m f.nm f.A f.c f.bs f.D f.dc f.dl f'.id f'.ver f'.tm f'.ty f'.node f'.m f'.nm f'.A f'.c f'.bs f'.D f'.dc f'.dl w h.rd h'.rd h.ds h'.ds h.dn h'.dn h.ns h'.ns
  refine h1.mono fun e w' ⟨he, hc⟩ => ⟨⟨_, he, ?_⟩, hc⟩
  simp only [Bool.and_eq_true, decide_eq_true_eq, EvF.v_iff, strs_iff hb hb']
end Go.Proofs.YtngfimjbgopgjaaGreatDoor
