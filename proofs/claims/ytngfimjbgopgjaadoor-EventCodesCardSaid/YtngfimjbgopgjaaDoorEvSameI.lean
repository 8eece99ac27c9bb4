/- Contract of event.Same at any two events (gen_evsame.py). -/
import Derived.Test.YtngfimjbgopgjaaDoorEvSameH
namespace Go.Proofs.YtngfimjbgopgjaaDoor
open Go.RowKit
set_option linter.unusedVariables false

set_option maxHeartbeats 4000000 in
set_option maxRecDepth 20000 in
theorem sameG_any (id ver tm ty node m : Int) (nm : ByteArray) (A : Option Addr) (n c : Nat) (bs : List Int) (D : Option Addr) (dn dc : Nat) (dl : List Df) (id' ver' tm' ty' node' m' : Int) (nm' : ByteArray) (B : Option Addr) (n' c' : Nat) (bs' : List Int) (E : Option Addr) (dn' dc' : Nat) (dl' : List Df) (w : World)
    (hA : Rd w A (bs.map (Value.int .u8))) (hB : Rd w B (bs'.map (Value.int .u8))) (hn : bs.length = n) (hn' : bs'.length = n') (hl : n ≤ 1048576) (hl' : n' ≤ 1048576) (hD : RdDf w D dl) (hE : RdDf w E dl') (hdn : dl.length = dn) (hdn' : dl'.length = dn') (hdl : dn ≤ 1048576) (hdl' : dn' ≤ 1048576) (h1 : ∀ d ∈ dl, d.ns.length ≤ 1048576) (h2 : ∀ d ∈ dl', d.ns.length ≤ 1048576) :
    Calls Tryd.prog 18 #[.agg #[.int .i64 id, .int .i64 ver, .int .i64 tm, .int .i64 ty, .int .i64 node, .int .i64 m, .string nm, .slice A n c, .slice D dn dc], .agg #[.int .i64 id', .int .i64 ver', .int .i64 tm', .int .i64 ty', .int .i64 node', .int .i64 m', .string nm', .slice B n' c', .slice E dn' dc']] w fun e w' => e = .returned (.bool (decide (id = id') && (decide (ver = ver') && (decide (tm = tm') && (decide (ty = ty') && (decide (node = node') && (decide (m = m') && (decide (nm = nm') && (decide (bs = bs') && (decide (dl.map Df.v = dl'.map Df.v))))))))))) ∧ Chg (fun _ => False) w w' := by
  have HN := Lib.hid hn
  have HN' := Lib.hid hn'
  have HDN := Lib.hid hdn
  have HDN' := Lib.hid hdn'
  clear hn hn' hdn hdn'
  have bP := two_P w 28 28 #[.int .i64 id, .int .i64 ver, .int .i64 tm, .int .i64 ty, .int .i64 node, .int .i64 m, .string nm, .slice A n c, .slice D dn dc] #[.int .i64 id', .int .i64 ver', .int .i64 tm', .int .i64 ty', .int .i64 node', .int .i64 m', .string nm', .slice B n' c', .slice E dn' dc']
  have bE := two_E w 28 28 #[.int .i64 id, .int .i64 ver, .int .i64 tm, .int .i64 ty, .int .i64 node, .int .i64 m, .string nm, .slice A n c, .slice D dn dc] #[.int .i64 id', .int .i64 ver', .int .i64 tm', .int .i64 ty', .int .i64 node', .int .i64 m', .string nm', .slice B n' c', .slice E dn' dc']
  have hc0 : Chg (fun _ => False) w ((w.alloc (.cells #[.int .i64 id, .int .i64 ver, .int .i64 tm, .int .i64 ty, .int .i64 node, .int .i64 m, .string nm, .slice A n c, .slice D dn dc] 28)).alloc (.cells #[.int .i64 id', .int .i64 ver', .int .i64 tm', .int .i64 ty', .int .i64 node', .int .i64 m', .string nm', .slice B n' c', .slice E dn' dc'] 28)) := ((Chg.refl _ _).alloc _).alloc _
  have hA1 := (hA.alloc (.cells #[.int .i64 id, .int .i64 ver, .int .i64 tm, .int .i64 ty, .int .i64 node, .int .i64 m, .string nm, .slice A n c, .slice D dn dc] 28)).alloc (.cells #[.int .i64 id', .int .i64 ver', .int .i64 tm', .int .i64 ty', .int .i64 node', .int .i64 m', .string nm', .slice B n' c', .slice E dn' dc'] 28)
  have hB1 := (hB.alloc (.cells #[.int .i64 id, .int .i64 ver, .int .i64 tm, .int .i64 ty, .int .i64 node, .int .i64 m, .string nm, .slice A n c, .slice D dn dc] 28)).alloc (.cells #[.int .i64 id', .int .i64 ver', .int .i64 tm', .int .i64 ty', .int .i64 node', .int .i64 m', .string nm', .slice B n' c', .slice E dn' dc'] 28)
  have hD1 := hD.still hc0
  have hE1 := hE.still hc0
  obtain ⟨t8, e8⟩ : ∃ t, decide (bs = bs') = t := ⟨_, rfl⟩
  obtain ⟨t9, e9⟩ : ∃ t, decide (dl.map Df.v = dl'.map Df.v) = t := ⟨_, rfl⟩
  rw [e8, e9]
  have E8 := Lib.hid e8
  have E9 := Lib.hid e9
  clear e8 e9
  by_cases h_id : id = id'
  · subst h_id
    by_cases h_ver : ver = ver'
    · subst h_ver
      by_cases h_tm : tm = tm'
      · subst h_tm
        by_cases h_ty : ty = ty'
        · subst h_ty
          by_cases h_node : node = node'
          · subst h_node
            by_cases h_m : m = m'
            · subst h_m
              by_cases h_nm : nm = nm'
              · subst h_nm
                cases t8
                · go_enter Tryd.func18, Tryd.ntmps18
                  go_wp2_with (first
                    | (go_at_call 67; go_must (refine (equalDefs_any D E dn dn' dc dc' dl dl' _ (hD1.still hc2) (hE1.still hc2) HDN.out HDN'.out hdl hdl' h1 h2).mono ?_; rintro e w3 ⟨rfl, hc3⟩; rw [E9.out]))
                    | (go_at_call 59; go_must (refine (equalB_any A B n n' c c' bs bs' _ hA1 hB1 HN.out HN'.out hl hl').mono ?_; rintro e w2 ⟨rfl, hc2⟩; rw [E8.out]; have q8 := (bP.keep hc2 (fun h => h)).cell 8 rfl; have r8 := (bE.keep hc2 (fun h => h)).cell 8 rfl)))
                  go_ret
                  exact ⟨by simp_all, hc0.trans hc2 (fun x hx => hx.elim)⟩
                · go_enter Tryd.func18, Tryd.ntmps18
                  go_wp2_with (first
                    | (go_at_call 67; go_must (refine (equalDefs_any D E dn dn' dc dc' dl dl' _ (hD1.still hc2) (hE1.still hc2) HDN.out HDN'.out hdl hdl' h1 h2).mono ?_; rintro e w3 ⟨rfl, hc3⟩; rw [E9.out]))
                    | (go_at_call 59; go_must (refine (equalB_any A B n n' c c' bs bs' _ hA1 hB1 HN.out HN'.out hl hl').mono ?_; rintro e w2 ⟨rfl, hc2⟩; rw [E8.out]; have q8 := (bP.keep hc2 (fun h => h)).cell 8 rfl; have r8 := (bE.keep hc2 (fun h => h)).cell 8 rfl)))
                  go_ret
                  exact ⟨by simp_all, (hc0.trans hc2 (fun x hx => hx.elim)).trans hc3 (fun x hx => hx.elim)⟩
              · have u1 : decide (nm = nm') = false := by simpa using h_nm
                (try have u2 : (nm == nm') = false := by simpa using h_nm)
                have u3 : nm.toList ≠ nm'.toList := fun e => h_nm (by rw [ByteArray.toList_eq, ByteArray.toList_eq] at e; cases nm; cases nm'; simpa using e)
                have u4 : (nm.toList == nm'.toList) = false := by simpa using u3
                go_enter Tryd.func18, Tryd.ntmps18
                go_wp2_with (first
                  | (go_at_call 67; go_must (refine (equalDefs_any D E dn dn' dc dc' dl dl' _ (hD1.still hc2) (hE1.still hc2) HDN.out HDN'.out hdl hdl' h1 h2).mono ?_; rintro e w3 ⟨rfl, hc3⟩; rw [E9.out]))
                  | (go_at_call 59; go_must (refine (equalB_any A B n n' c c' bs bs' _ hA1 hB1 HN.out HN'.out hl hl').mono ?_; rintro e w2 ⟨rfl, hc2⟩; rw [E8.out]; have q8 := (bP.keep hc2 (fun h => h)).cell 8 rfl; have r8 := (bE.keep hc2 (fun h => h)).cell 8 rfl)))
                go_ret
                exact ⟨by simp_all, hc0⟩
            · have u1 : (m == m') = false := by simpa using h_m
              have u2 : decide (m = m') = false := by simpa using h_m
              go_enter Tryd.func18, Tryd.ntmps18
              go_wp2_with (first
                | (go_at_call 67; go_must (refine (equalDefs_any D E dn dn' dc dc' dl dl' _ (hD1.still hc2) (hE1.still hc2) HDN.out HDN'.out hdl hdl' h1 h2).mono ?_; rintro e w3 ⟨rfl, hc3⟩; rw [E9.out]))
                | (go_at_call 59; go_must (refine (equalB_any A B n n' c c' bs bs' _ hA1 hB1 HN.out HN'.out hl hl').mono ?_; rintro e w2 ⟨rfl, hc2⟩; rw [E8.out]; have q8 := (bP.keep hc2 (fun h => h)).cell 8 rfl; have r8 := (bE.keep hc2 (fun h => h)).cell 8 rfl)))
              go_ret
              exact ⟨by simp_all, hc0⟩
          · have u1 : (node == node') = false := by simpa using h_node
            have u2 : decide (node = node') = false := by simpa using h_node
            go_enter Tryd.func18, Tryd.ntmps18
            go_wp2_with (first
              | (go_at_call 67; go_must (refine (equalDefs_any D E dn dn' dc dc' dl dl' _ (hD1.still hc2) (hE1.still hc2) HDN.out HDN'.out hdl hdl' h1 h2).mono ?_; rintro e w3 ⟨rfl, hc3⟩; rw [E9.out]))
              | (go_at_call 59; go_must (refine (equalB_any A B n n' c c' bs bs' _ hA1 hB1 HN.out HN'.out hl hl').mono ?_; rintro e w2 ⟨rfl, hc2⟩; rw [E8.out]; have q8 := (bP.keep hc2 (fun h => h)).cell 8 rfl; have r8 := (bE.keep hc2 (fun h => h)).cell 8 rfl)))
            go_ret
            exact ⟨by simp_all, hc0⟩
        · have u1 : (ty == ty') = false := by simpa using h_ty
          have u2 : decide (ty = ty') = false := by simpa using h_ty
          go_enter Tryd.func18, Tryd.ntmps18
          go_wp2_with (first
            | (go_at_call 67; go_must (refine (equalDefs_any D E dn dn' dc dc' dl dl' _ (hD1.still hc2) (hE1.still hc2) HDN.out HDN'.out hdl hdl' h1 h2).mono ?_; rintro e w3 ⟨rfl, hc3⟩; rw [E9.out]))
            | (go_at_call 59; go_must (refine (equalB_any A B n n' c c' bs bs' _ hA1 hB1 HN.out HN'.out hl hl').mono ?_; rintro e w2 ⟨rfl, hc2⟩; rw [E8.out]; have q8 := (bP.keep hc2 (fun h => h)).cell 8 rfl; have r8 := (bE.keep hc2 (fun h => h)).cell 8 rfl)))
          go_ret
          exact ⟨by simp_all, hc0⟩
      · have u1 : (tm == tm') = false := by simpa using h_tm
        have u2 : decide (tm = tm') = false := by simpa using h_tm
        go_enter Tryd.func18, Tryd.ntmps18
        go_wp2_with (first
          | (go_at_call 67; go_must (refine (equalDefs_any D E dn dn' dc dc' dl dl' _ (hD1.still hc2) (hE1.still hc2) HDN.out HDN'.out hdl hdl' h1 h2).mono ?_; rintro e w3 ⟨rfl, hc3⟩; rw [E9.out]))
          | (go_at_call 59; go_must (refine (equalB_any A B n n' c c' bs bs' _ hA1 hB1 HN.out HN'.out hl hl').mono ?_; rintro e w2 ⟨rfl, hc2⟩; rw [E8.out]; have q8 := (bP.keep hc2 (fun h => h)).cell 8 rfl; have r8 := (bE.keep hc2 (fun h => h)).cell 8 rfl)))
        go_ret
        exact ⟨by simp_all, hc0⟩
    · have u1 : (ver == ver') = false := by simpa using h_ver
      have u2 : decide (ver = ver') = false := by simpa using h_ver
      go_enter Tryd.func18, Tryd.ntmps18
      go_wp2_with (first
        | (go_at_call 67; go_must (refine (equalDefs_any D E dn dn' dc dc' dl dl' _ (hD1.still hc2) (hE1.still hc2) HDN.out HDN'.out hdl hdl' h1 h2).mono ?_; rintro e w3 ⟨rfl, hc3⟩; rw [E9.out]))
        | (go_at_call 59; go_must (refine (equalB_any A B n n' c c' bs bs' _ hA1 hB1 HN.out HN'.out hl hl').mono ?_; rintro e w2 ⟨rfl, hc2⟩; rw [E8.out]; have q8 := (bP.keep hc2 (fun h => h)).cell 8 rfl; have r8 := (bE.keep hc2 (fun h => h)).cell 8 rfl)))
      go_ret
      exact ⟨by simp_all, hc0⟩
  · have u1 : (id == id') = false := by simpa using h_id
    have u2 : decide (id = id') = false := by simpa using h_id
    go_enter Tryd.func18, Tryd.ntmps18
    go_wp2_with (first
      | (go_at_call 67; go_must (refine (equalDefs_any D E dn dn' dc dc' dl dl' _ (hD1.still hc2) (hE1.still hc2) HDN.out HDN'.out hdl hdl' h1 h2).mono ?_; rintro e w3 ⟨rfl, hc3⟩; rw [E9.out]))
      | (go_at_call 59; go_must (refine (equalB_any A B n n' c c' bs bs' _ hA1 hB1 HN.out HN'.out hl hl').mono ?_; rintro e w2 ⟨rfl, hc2⟩; rw [E8.out]; have q8 := (bP.keep hc2 (fun h => h)).cell 8 rfl; have r8 := (bE.keep hc2 (fun h => h)).cell 8 rfl)))
    go_ret
    exact ⟨by simp_all, hc0⟩
end Go.Proofs.YtngfimjbgopgjaaDoor
