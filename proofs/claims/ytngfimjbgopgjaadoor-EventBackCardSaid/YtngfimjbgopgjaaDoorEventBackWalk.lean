/- EventBack: the walk of cutoverlaw10.EventBack. -/
import Derived.Test.YtngfimjbgopgjaaDoorEvCon
import Derived.Test.YtngfimjbgopgjaaDoorEvSame
import Derived.Deep.RegionHeld3
import Derived.BigQuiet
import Derived.Deep.CutBlock
import Derived.Deep.DeepCutAuto
namespace Go.Proofs.YtngfimjbgopgjaaDoor.eventBack
open Go.RowKit
set_option linter.unusedVariables false

/-- An event of one's in its box. -/
def EvIn (w w' : World) (e : Value) : Prop := ∃ (g : Nat) (f : EvF), e = .pointer (some ⟨g, 0, none⟩) ∧ BoxAt w' g 28 f.row ∧ EvOk w' w.heap.size f ∧ Chg (fun _ => False) w w'
theorem toList_eq {a b : ByteArray} (h : a.toList = b.toList) : a = b := by
  rw [ByteArray.toList_eq, ByteArray.toList_eq] at h
  exact ByteArray.ext (Array.toList_inj.1 h)
/-- What is laid of it. -/
def LaidIn (w w' : World) (f : EvF) (a g : Value) : Prop := ∃ (A : Option Addr) (n c : Nat) (k : Int), a = .slice A n c ∧ g = .int .i64 k ∧ ((f.right = true ∧ k = 0 ∧ n = f.lay.length ∧ Rd w' A (f.lay.map (Value.int .u8))) ∨ (f.right = false ∧ k = 1)) ∧ Chg (fun _ => False) w w'
theorem lay_yes (f : EvF) (w : World) (h : EvRd w f) (hr : f.right = true) : Calls Tryd.prog 8 #[f.val] w fun e w' => ∃ A c, e = .returned (.tuple #[.slice A f.lay.length c, .int .i64 0]) ∧ Rd w' A (f.lay.map (Value.int .u8)) ∧ Chg (fun _ => False) w w' := by
  refine (lay_f f w h).mono fun e w' ⟨h1, hc⟩ => ?_
  rcases h1 with ⟨_, A, c, he, ho⟩ | ⟨h2, _⟩
  · exact ⟨A, c, he, Rd.of_own ho, hc⟩
  · rw [hr] at h2; cases h2
theorem lay_no (f : EvF) (w : World) (h : EvRd w f) (hr : f.right = false) : Calls Tryd.prog 8 #[f.val] w fun e w' => e = .returned (.tuple #[.slice none 0 0, .int .i64 1]) ∧ Chg (fun _ => False) w w' := by
  refine (lay_f f w h).mono fun e w' ⟨h1, hc⟩ => ?_
  rcases h1 with ⟨h2, _⟩ | ⟨_, he⟩
  · rw [hr] at h2; cases h2
  · exact ⟨he, hc⟩
theorem EvGave.out {w w' : World} {e : Ending} (h : EvGave w e w') : ∃ (id ver tm ty node m : Int) (nm : ByteArray) (A : Option Addr) (c : Nat) (bs : List Int) (D : Option Addr) (dc : Nat) (dl : List Df), e = .returned (.agg #[.int .i64 id, .int .i64 ver, .int .i64 tm, .int .i64 ty, .int .i64 node, .int .i64 m, .string nm, .slice A bs.length c, .slice D dl.length dc]) ∧ EvOk w' w.heap.size ⟨id, ver, tm, ty, node, m, nm, A, c, bs, D, dc, dl⟩ ∧ Chg (fun _ => False) w w' := by
  obtain ⟨⟨id, ver, tm, ty, node, m, nm, A, c, bs, D, dc, dl⟩, h1, h2, h3⟩ := h
  exact ⟨id, ver, tm, ty, node, m, nm, A, c, bs, D, dc, dl, h1, h2, h3⟩

theorem read_lay2 (f : EvF) (B : Option Addr) (n d : Nat) (w : World) (hr : f.right = true) (hb : ∀ z ∈ f.bs, 0 ≤ z ∧ z ≤ 255) (h : Rd w B (f.lay.map (Value.int .u8))) (hn : f.lay.length = n) :
    Calls Tryd.prog 14 #[.slice B n d] w fun e w' => ∃ (id ver tm ty node m : Int) (nm : ByteArray) (A : Option Addr) (c : Nat) (bs : List Int) (D : Option Addr) (dc : Nat) (dl : List Df), e = .returned (.tuple #[.agg #[.int .i64 id, .int .i64 ver, .int .i64 tm, .int .i64 ty, .int .i64 node, .int .i64 m, .string nm, .slice A bs.length c, .slice D dl.length dc], .int .i64 0]) ∧ EvRd w' ⟨id, ver, tm, ty, node, m, nm, A, c, bs, D, dc, dl⟩ ∧ EvF.v ⟨id, ver, tm, ty, node, m, nm, A, c, bs, D, dc, dl⟩ = f.v ∧ Chg (fun _ => False) w w' :=
  (read_lay f B n d w hr hb h hn).mono fun e w' ⟨⟨⟨id, ver, tm, ty, node, m, nm, A, c, bs, D, dc, dl⟩, h1, h2, h3⟩, hc⟩ => ⟨id, ver, tm, ty, node, m, nm, A, c, bs, D, dc, dl, h1, h2, h3, hc⟩
theorem read_any2 (B : Option Addr) (n d : Nat) (xs : List Int) (w : World) (h : Rd w B (xs.map (Value.int .u8))) (hn : xs.length = n) (hn2 : n ≤ 140737488355328) (hby : ∀ x ∈ xs, 0 ≤ x ∧ x ≤ 255) :
    Calls Tryd.prog 14 #[.slice B n d] w fun e w' => ∃ (id ver tm ty node m : Int) (nm : ByteArray) (A : Option Addr) (c : Nat) (bs : List Int) (D : Option Addr) (dc : Nat) (dl : List Df) (k : Int), e = .returned (.tuple #[.agg #[.int .i64 id, .int .i64 ver, .int .i64 tm, .int .i64 ty, .int .i64 node, .int .i64 m, .string nm, .slice A bs.length c, .slice D dl.length dc], .int .i64 k]) ∧ ((k = 0 ∧ EvRd w' ⟨id, ver, tm, ty, node, m, nm, A, c, bs, D, dc, dl⟩ ∧ EvF.right ⟨id, ver, tm, ty, node, m, nm, A, c, bs, D, dc, dl⟩ = true ∧ EvF.lay ⟨id, ver, tm, ty, node, m, nm, A, c, bs, D, dc, dl⟩ = xs) ∨ k = 5) ∧ Chg (fun _ => False) w w' := by
  refine (read_any B n d xs w h hn hn2 hby).mono fun e w' ⟨h1, hc⟩ => ?_
  rcases h1 with ⟨⟨id, ver, tm, ty, node, m, nm, A, c, bs, D, dc, dl⟩, h1, h2, h3, h4⟩ | h1
  · exact ⟨id, ver, tm, ty, node, m, nm, A, c, bs, D, dc, dl, 0, h1, .inl ⟨rfl, h2, h3, h4⟩, hc⟩
  · exact ⟨0, 0, 0, 0, 0, 0, { data := #[] }, none, 0, [], none, 0, [], 5, h1, .inr rfl, hc⟩

set_option maxHeartbeats 8000000 in
set_option maxRecDepth 20000 in
theorem walk (w : World) (x : RawV) (hx : RawOk w x) (y : RawV) (hy : RawOk w y) (a2 : Option Addr) (len2 cap2 : Nat) (h2 : Bys w a2 len2 cap2) (hN : NamesAt w 0) : Calls Tryd.prog 4 #[x.val, y.val, .slice a2 len2 cap2] w (SaysTrue w) := by
  obtain ⟨xs, hxl, hxc, hxm, hxr, hxd, hxw⟩ := h2
  have hxb : ∀ z ∈ xs, 0 ≤ z ∧ z ≤ 255 := fun z hz => by have h := hxw z hz; simp [Lit.wf, IntKind.min, IntKind.max, IntKind.signed, IntKind.bits] at h; omega
  have HXL := Lib.hid hxl
  have HXD := Lib.hid hxd
  have HXB := Lib.hid hxb
  have HX := Lib.hid hx
  have HY := Lib.hid hy
  have HN := Lib.hid hN
  clear hxw hxl hxd hxb hx hy hN
  unfold RawV.val
  obtain ⟨w1, hw1⟩ : ∃ w1, w1 = (w.alloc (.cells #[.int .i64 x.id, .int .i64 x.ver, .int .i64 x.tm, .int .i64 x.ty, .int .i64 x.node, .int .i64 x.m, .int .i64 x.name, .int .i64 x.defs, .int .i64 x.how, .slice x.A x.n x.c, .slice x.L x.ln x.lc] 25)).alloc (.cells #[.int .i64 y.id, .int .i64 y.ver, .int .i64 y.tm, .int .i64 y.ty, .int .i64 y.node, .int .i64 y.m, .int .i64 y.name, .int .i64 y.defs, .int .i64 y.how, .slice y.A y.n y.c, .slice y.L y.ln y.lc] 25) := ⟨_, rfl⟩
  have bx : BoxAt w1 w.heap.size 25 #[.int .i64 x.id, .int .i64 x.ver, .int .i64 x.tm, .int .i64 x.ty, .int .i64 x.node, .int .i64 x.m, .int .i64 x.name, .int .i64 x.defs, .int .i64 x.how, .slice x.A x.n x.c, .slice x.L x.ln x.lc] := by rw [hw1]; exact (BoxAt.new w _ _).keep ((Chg.refl (fun _ => False) _).alloc _) (fun h => h)
  have by_ : BoxAt w1 (w.heap.size + 1) 25 #[.int .i64 y.id, .int .i64 y.ver, .int .i64 y.tm, .int .i64 y.ty, .int .i64 y.node, .int .i64 y.m, .int .i64 y.name, .int .i64 y.defs, .int .i64 y.how, .slice y.A y.n y.c, .slice y.L y.ln y.lc] := by rw [hw1]; exact box2 w _ _ _
  have hc1 : Chg (fun _ => False) w w1 := by rw [hw1]; exact ((Chg.refl _ _).alloc _).alloc _
  go_enter Tryd.func4, Tryd.ntmps4
  go_upto_region 1 with fail
  rw [← hw1]
  clear hw1
  go_cut [7] from 19 to 20 (fun e w' => EvIn w1 w' e)
  case first =>
    have q0 := bx.cell 0 rfl
    have q1 := bx.cell 1 rfl
    have q2 := bx.cell 2 rfl
    have q3 := bx.cell 3 rfl
    have q4 := bx.cell 4 rfl
    have q5 := bx.cell 5 rfl
    have q6 := bx.cell 6 rfl
    have q7 := bx.cell 7 rfl
    have q8 := bx.cell 8 rfl
    have q9 := bx.cell 9 rfl
    have q10 := bx.cell 10 rfl
    have hone := one_any x w1 (HX.out.still hc1) (HN.out.keep hc1 (fun h => h))
    unfold RawV.val at hone
    go_wp2_with (go_at_call 7; go_must (refine hone.mono ?_; rintro e w2 hg; obtain ⟨id, ver, tm, ty, node, m, nm, A, c, bs, D, dc, dl, rfl, hE, hc⟩ := EvGave.out hg))
    go_meet
    exact ⟨w2.heap.size, ⟨id, ver, tm, ty, node, m, nm, A, c, bs, D, dc, dl⟩, rfl, BoxAt.new w2 _ _, hE.keep ((Chg.refl (fun _ => False) _).alloc _) (fun x hx => hx.elim), hc.alloc _⟩
  case rest =>
    obtain ⟨ge, f, rfl, be, hE, hcA⟩ := hcut
    have by2 := by_.keep hcA (fun h => h)
    have hc2 := hc1.trans hcA (fun x hx => hx.elim)
    clear bx by_ hcA
    have hR := hE.rdy
    have hfb := hE.byt
    clear hE
    go_upto_region 2 with fail
    go_cut [8] from 21 to 22 (fun e w' => EvIn wc w' e)
    case first =>
      have q0 := by2.cell 0 rfl
      have q1 := by2.cell 1 rfl
      have q2 := by2.cell 2 rfl
      have q3 := by2.cell 3 rfl
      have q4 := by2.cell 4 rfl
      have q5 := by2.cell 5 rfl
      have q6 := by2.cell 6 rfl
      have q7 := by2.cell 7 rfl
      have q8 := by2.cell 8 rfl
      have q9 := by2.cell 9 rfl
      have q10 := by2.cell 10 rfl
      have hone := one_any y wc (HY.out.still hc2) (HN.out.keep hc2 (fun h => h))
      unfold RawV.val at hone
      go_wp2_with (go_at_call 7; go_must (refine hone.mono ?_; rintro e w2 hg; obtain ⟨id, ver, tm, ty, node, m, nm, A, c, bs, D, dc, dl, rfl, hE, hc⟩ := EvGave.out hg))
      go_meet
      exact ⟨w2.heap.size, ⟨id, ver, tm, ty, node, m, nm, A, c, bs, D, dc, dl⟩, rfl, BoxAt.new w2 _ _, hE.keep ((Chg.refl (fun _ => False) _).alloc _) (fun x hx => hx.elim), hc.alloc _⟩
    case rest =>
      obtain ⟨gf, u, rfl, bf, hE, hcA⟩ := hcut
      have be2 := be.keep hcA (fun h => h)
      have hR2 := hR.still hcA
      have hU := hE.rdy
      have hub := hE.byt
      have hc3 := hc2.trans hcA (fun x hx => hx.elim)
      clear by2 be hR hE hc2 hcA
      have HFB := Lib.hid hfb
      have HUB := Lib.hid hub
      clear hfb hub
      go_upto_region 3 with fail
      go_cut [9, 10] from 23 to 27 (fun a g w' => LaidIn wc w' f a g)
      case first =>
        have q0 : (wc).cell? ⟨ge, 0, none⟩ = some (.int .i64 f.id) := be2.cell 0 rfl
        have q1 : (wc).cell? ⟨ge, 1, none⟩ = some (.int .i64 f.ver) := be2.cell 1 rfl
        have q2 : (wc).cell? ⟨ge, 2, none⟩ = some (.int .i64 f.tm) := be2.cell 2 rfl
        have q3 : (wc).cell? ⟨ge, 3, none⟩ = some (.int .i64 f.ty) := be2.cell 3 rfl
        have q4 : (wc).cell? ⟨ge, 4, none⟩ = some (.int .i64 f.node) := be2.cell 4 rfl
        have q5 : (wc).cell? ⟨ge, 5, none⟩ = some (.int .i64 f.m) := be2.cell 5 rfl
        have q6 : (wc).cell? ⟨ge, 6, none⟩ = some (.string f.nm) := be2.cell 6 rfl
        have q7 : (wc).cell? ⟨ge, 7, none⟩ = some (.slice f.A f.bs.length f.c) := be2.cell 7 rfl
        have q8 : (wc).cell? ⟨ge, 8, none⟩ = some (.slice f.D f.dl.length f.dc) := be2.cell 8 rfl
        rcases Bool.eq_false_or_eq_true f.right with hr | hr
        · have hL := lay_yes f wc hR2 hr
          have HR := Lib.hid hr
          obtain ⟨xl, hxl⟩ : ∃ xl, xl = f.lay := ⟨_, rfl⟩
          rw [← hxl] at hL
          have HXE := Lib.hid hxl
          clear hr hxl
          unfold EvF.val EvF.row at hL
          go_wp2_with (go_at_call 8; go_must (refine hL.mono ?_; rintro e w3 ⟨A3, c3, rfl, hrd, hc⟩))
          go_meet
          exact ⟨A3, xl.length, c3, 0, rfl, rfl, .inl ⟨HR.out, rfl, by rw [HXE.out], by rw [← HXE.out]; exact hrd⟩, hc⟩
        · have hL := lay_no f wc hR2 hr
          have HR := Lib.hid hr
          clear hr
          unfold EvF.val EvF.row at hL
          go_wp2_with (go_at_call 8; go_must (refine hL.mono ?_; rintro e w3 ⟨rfl, hc⟩))
          go_meet
          exact ⟨none, 0, 0, 1, rfl, rfl, .inr ⟨HR.out, rfl⟩, hc⟩
      case rest =>
        obtain ⟨A, n, c, k, rfl, rfl, hk, hcA⟩ := hcut
        have be3 := be2.keep hcA (fun h => h)
        have bf3 := bf.keep hcA (fun h => h)
        have hR3 := hR2.still hcA
        have hU3 := hU.still hcA
        have hc4 := hc3.trans hcA (fun x hx => hx.elim)
        clear be2 bf hR2 hU hc3 hcA
        have HK := Lib.hid hk
        clear hk
        go_upto_region 4 with fail
        go_cut [11, 12] from 28 to 32 (fun a g w' => LaidIn wc w' u a g)
        case first =>
          have q0 : (wc).cell? ⟨gf, 0, none⟩ = some (.int .i64 u.id) := bf3.cell 0 rfl
          have q1 : (wc).cell? ⟨gf, 1, none⟩ = some (.int .i64 u.ver) := bf3.cell 1 rfl
          have q2 : (wc).cell? ⟨gf, 2, none⟩ = some (.int .i64 u.tm) := bf3.cell 2 rfl
          have q3 : (wc).cell? ⟨gf, 3, none⟩ = some (.int .i64 u.ty) := bf3.cell 3 rfl
          have q4 : (wc).cell? ⟨gf, 4, none⟩ = some (.int .i64 u.node) := bf3.cell 4 rfl
          have q5 : (wc).cell? ⟨gf, 5, none⟩ = some (.int .i64 u.m) := bf3.cell 5 rfl
          have q6 : (wc).cell? ⟨gf, 6, none⟩ = some (.string u.nm) := bf3.cell 6 rfl
          have q7 : (wc).cell? ⟨gf, 7, none⟩ = some (.slice u.A u.bs.length u.c) := bf3.cell 7 rfl
          have q8 : (wc).cell? ⟨gf, 8, none⟩ = some (.slice u.D u.dl.length u.dc) := bf3.cell 8 rfl
          rcases Bool.eq_false_or_eq_true u.right with hr | hr
          · have hL := lay_yes u wc hU3 hr
            have HR := Lib.hid hr
            obtain ⟨xl, hxl⟩ : ∃ xl, xl = u.lay := ⟨_, rfl⟩
            rw [← hxl] at hL
            have HXE := Lib.hid hxl
            clear hr hxl
            unfold EvF.val EvF.row at hL
            go_wp2_with (go_at_call 8; go_must (refine hL.mono ?_; rintro e w3 ⟨A3, c3, rfl, hrd, hc⟩))
            go_meet
            exact ⟨A3, xl.length, c3, 0, rfl, rfl, .inl ⟨HR.out, rfl, by rw [HXE.out], by rw [← HXE.out]; exact hrd⟩, hc⟩
          · have hL := lay_no u wc hU3 hr
            have HR := Lib.hid hr
            clear hr
            unfold EvF.val EvF.row at hL
            go_wp2_with (go_at_call 8; go_must (refine hL.mono ?_; rintro e w3 ⟨rfl, hc⟩))
            go_meet
            exact ⟨none, 0, 0, 1, rfl, rfl, .inr ⟨HR.out, rfl⟩, hc⟩
        case rest =>
          obtain ⟨B, m, d, j, rfl, rfl, hj, hcA⟩ := hcut
          have be := be3.keep hcA (fun h => h)
          have bf := bf3.keep hcA (fun h => h)
          have hR := hR3.still hcA
          have hU := hU3.still hcA
          have hc := hc4.trans hcA (fun x hx => hx.elim)
          have hk : (f.right = true ∧ k = 0 ∧ n = f.lay.length ∧ Rd wc A (f.lay.map (Value.int .u8))) ∨ (f.right = false ∧ k = 1) := by
            rcases HK.out with ⟨h1, h2, h3, h4⟩ | h1
            · exact .inl ⟨h1, h2, h3, h4.keep hcA (fun _ _ h => h)⟩
            · exact .inr h1
          have HJ := Lib.hid hj
          clear hj be3 bf3 hR3 hU3 hc4 HK hcA
          have HK := Lib.hid hk
          clear hk
          go_upto_if 34 with fail
          go_cut [13, 14] from 35 to 47 (fun _ _ w' => Chg (fun _ => False) wc w')
          case first =>
            rcases HK.out with ⟨hr, rfl, hn, hA⟩ | ⟨hr, rfl⟩
            · have hrl := read_lay2 f A n c wc hr HFB.out hA hn.symm
              clear hr hn hA
              go_wp2_with (first
                | (go_at_call 18; go_must (refine hS.mono ?_; rintro e w7 ⟨⟨b, rfl, hb⟩, hc7⟩; have hbt : b = true := hb.2 hzv; subst hbt))
                | (go_at_call 14; go_must (refine hrl.mono ?_; rintro e w6 ⟨id, ver, tm, ty, node, m, nm, A6, c6, bs, D, dc, dl, rfl, hz, hzv, hc6⟩; have hcw6 := hc6.alloc (.cells #[.int .i64 id, .int .i64 ver, .int .i64 tm, .int .i64 ty, .int .i64 node, .int .i64 m, .string nm, .slice A6 bs.length c6, .slice D dl.length dc] 28); have hca6 := (Chg.refl (fun _ => False) w6).alloc (.cells #[.int .i64 id, .int .i64 ver, .int .i64 tm, .int .i64 ty, .int .i64 node, .int .i64 m, .string nm, .slice A6 bs.length c6, .slice D dl.length dc] 28); have bz := BoxAt.new w6 28 #[.int .i64 id, .int .i64 ver, .int .i64 tm, .int .i64 ty, .int .i64 node, .int .i64 m, .string nm, .slice A6 bs.length c6, .slice D dl.length dc]; have bee := be.keep hcw6 (fun h => h); have q0 := bz.cell 0 rfl; have q1 := bz.cell 1 rfl; have q2 := bz.cell 2 rfl; have q3 := bz.cell 3 rfl; have q4 := bz.cell 4 rfl; have q5 := bz.cell 5 rfl; have q6 := bz.cell 6 rfl; have q7 := bz.cell 7 rfl; have q8 := bz.cell 8 rfl; have p0 : (w6.alloc (.cells #[.int .i64 id, .int .i64 ver, .int .i64 tm, .int .i64 ty, .int .i64 node, .int .i64 m, .string nm, .slice A6 bs.length c6, .slice D dl.length dc] 28)).cell? ⟨ge, 0, none⟩ = some (.int .i64 f.id) := bee.cell 0 rfl; have p1 : (w6.alloc (.cells #[.int .i64 id, .int .i64 ver, .int .i64 tm, .int .i64 ty, .int .i64 node, .int .i64 m, .string nm, .slice A6 bs.length c6, .slice D dl.length dc] 28)).cell? ⟨ge, 1, none⟩ = some (.int .i64 f.ver) := bee.cell 1 rfl; have p2 : (w6.alloc (.cells #[.int .i64 id, .int .i64 ver, .int .i64 tm, .int .i64 ty, .int .i64 node, .int .i64 m, .string nm, .slice A6 bs.length c6, .slice D dl.length dc] 28)).cell? ⟨ge, 2, none⟩ = some (.int .i64 f.tm) := bee.cell 2 rfl; have p3 : (w6.alloc (.cells #[.int .i64 id, .int .i64 ver, .int .i64 tm, .int .i64 ty, .int .i64 node, .int .i64 m, .string nm, .slice A6 bs.length c6, .slice D dl.length dc] 28)).cell? ⟨ge, 3, none⟩ = some (.int .i64 f.ty) := bee.cell 3 rfl; have p4 : (w6.alloc (.cells #[.int .i64 id, .int .i64 ver, .int .i64 tm, .int .i64 ty, .int .i64 node, .int .i64 m, .string nm, .slice A6 bs.length c6, .slice D dl.length dc] 28)).cell? ⟨ge, 4, none⟩ = some (.int .i64 f.node) := bee.cell 4 rfl; have p5 : (w6.alloc (.cells #[.int .i64 id, .int .i64 ver, .int .i64 tm, .int .i64 ty, .int .i64 node, .int .i64 m, .string nm, .slice A6 bs.length c6, .slice D dl.length dc] 28)).cell? ⟨ge, 5, none⟩ = some (.int .i64 f.m) := bee.cell 5 rfl; have p6 : (w6.alloc (.cells #[.int .i64 id, .int .i64 ver, .int .i64 tm, .int .i64 ty, .int .i64 node, .int .i64 m, .string nm, .slice A6 bs.length c6, .slice D dl.length dc] 28)).cell? ⟨ge, 6, none⟩ = some (.string f.nm) := bee.cell 6 rfl; have p7 : (w6.alloc (.cells #[.int .i64 id, .int .i64 ver, .int .i64 tm, .int .i64 ty, .int .i64 node, .int .i64 m, .string nm, .slice A6 bs.length c6, .slice D dl.length dc] 28)).cell? ⟨ge, 7, none⟩ = some (.slice f.A f.bs.length f.c) := bee.cell 7 rfl; have p8 : (w6.alloc (.cells #[.int .i64 id, .int .i64 ver, .int .i64 tm, .int .i64 ty, .int .i64 node, .int .i64 m, .string nm, .slice A6 bs.length c6, .slice D dl.length dc] 28)).cell? ⟨ge, 8, none⟩ = some (.slice f.D f.dl.length f.dc) := bee.cell 8 rfl; have hS := same_f ⟨id, ver, tm, ty, node, m, nm, A6, c6, bs, D, dc, dl⟩ f _ (hz.still hca6) (hR.still hcw6); simp only [EvF.val, EvF.row] at hS)))
              go_meet
              exact (hc6.alloc _).trans hc7 (fun x hx => hx.elim)
            · go_wp2_with fail
              go_meet
              exact Chg.refl _ _
          case rest =>
            have be2 := be.keep hcut (fun h => h)
            have bf2 := bf.keep hcut (fun h => h)
            have hR2 := hR.still hcut
            have hU2 := hU.still hcut
            have hc2 := hc.trans hcut (fun x hx => hx.elim)
            have hk : (f.right = true ∧ k = 0 ∧ n = f.lay.length ∧ Rd wc A (f.lay.map (Value.int .u8))) ∨ (f.right = false ∧ k = 1) := by
              rcases HK.out with ⟨h1, h2, h3, h4⟩ | h1
              · exact .inl ⟨h1, h2, h3, h4.keep hcut (fun _ _ h => h)⟩
              · exact .inr h1
            have hj : (u.right = true ∧ j = 0 ∧ m = u.lay.length ∧ Rd wc B (u.lay.map (Value.int .u8))) ∨ (u.right = false ∧ j = 1) := by
              rcases HJ.out with ⟨h1, h2, h3, h4⟩ | h1
              · exact .inl ⟨h1, h2, h3, h4.keep hcut (fun _ _ h => h)⟩
              · exact .inr h1
            clear HK HJ be bf hR hU hc hcut
            have HK := Lib.hid hk
            have HJ := Lib.hid hj
            clear hk hj
            go_upto_region 9 with fail
            go_cut [64] from 48 to 63 (fun v w' => v = .bool false ∧ Chg (fun _ => False) wc w')
            case first =>
              rcases HK.out with ⟨hr, rfl, hn, hA⟩ | ⟨hr, rfl⟩
              · rcases HJ.out with ⟨hr', rfl, hm, hB⟩ | ⟨hr', rfl⟩
                · have hiff := lay_iff f u hr hr' HFB.out HUB.out
                  obtain ⟨sa, hsa⟩ : ∃ sa, sa = strOfNums f.lay := ⟨_, rfl⟩
                  obtain ⟨sb, hsb⟩ : ∃ sb, sb = strOfNums u.lay := ⟨_, rfl⟩
                  have hSk : ∀ w', Chg (fun _ => False) wc w' → (w'.cell? ⟨ge, 0, none⟩ = some (.int .i64 f.id) ∧ w'.cell? ⟨ge, 1, none⟩ = some (.int .i64 f.ver) ∧ w'.cell? ⟨ge, 2, none⟩ = some (.int .i64 f.tm) ∧ w'.cell? ⟨ge, 3, none⟩ = some (.int .i64 f.ty) ∧ w'.cell? ⟨ge, 4, none⟩ = some (.int .i64 f.node) ∧ w'.cell? ⟨ge, 5, none⟩ = some (.int .i64 f.m) ∧ w'.cell? ⟨ge, 6, none⟩ = some (.string f.nm) ∧ w'.cell? ⟨ge, 7, none⟩ = some (.slice f.A f.bs.length f.c) ∧ w'.cell? ⟨ge, 8, none⟩ = some (.slice f.D f.dl.length f.dc) ∧ w'.cell? ⟨gf, 0, none⟩ = some (.int .i64 u.id) ∧ w'.cell? ⟨gf, 1, none⟩ = some (.int .i64 u.ver) ∧ w'.cell? ⟨gf, 2, none⟩ = some (.int .i64 u.tm) ∧ w'.cell? ⟨gf, 3, none⟩ = some (.int .i64 u.ty) ∧ w'.cell? ⟨gf, 4, none⟩ = some (.int .i64 u.node) ∧ w'.cell? ⟨gf, 5, none⟩ = some (.int .i64 u.m) ∧ w'.cell? ⟨gf, 6, none⟩ = some (.string u.nm) ∧ w'.cell? ⟨gf, 7, none⟩ = some (.slice u.A u.bs.length u.c) ∧ w'.cell? ⟨gf, 8, none⟩ = some (.slice u.D u.dl.length u.dc) ∧ (convert 22 9 (.slice A n c)).run Tryd.prog w' = .ok (.string sa) w' ∧ (convert 22 9 (.slice B m d)).run Tryd.prog w' = .ok (.string sb) w') := fun w' hw => ⟨(be2.keep hw (fun h => h)).cell 0 rfl, (be2.keep hw (fun h => h)).cell 1 rfl, (be2.keep hw (fun h => h)).cell 2 rfl, (be2.keep hw (fun h => h)).cell 3 rfl, (be2.keep hw (fun h => h)).cell 4 rfl, (be2.keep hw (fun h => h)).cell 5 rfl, (be2.keep hw (fun h => h)).cell 6 rfl, (be2.keep hw (fun h => h)).cell 7 rfl, (be2.keep hw (fun h => h)).cell 8 rfl, (bf2.keep hw (fun h => h)).cell 0 rfl, (bf2.keep hw (fun h => h)).cell 1 rfl, (bf2.keep hw (fun h => h)).cell 2 rfl, (bf2.keep hw (fun h => h)).cell 3 rfl, (bf2.keep hw (fun h => h)).cell 4 rfl, (bf2.keep hw (fun h => h)).cell 5 rfl, (bf2.keep hw (fun h => h)).cell 6 rfl, (bf2.keep hw (fun h => h)).cell 7 rfl, (bf2.keep hw (fun h => h)).cell 8 rfl, by rw [hsa]; exact run_convert_rd (P := Tryd.prog) w' 22 9 5 Tryd.underlying22 Tryd.underlying5 Tryd.underlying9 A n c f.lay hn.symm (hA.keep hw (fun _ _ h => h)), by rw [hsb]; exact run_convert_rd (P := Tryd.prog) w' 22 9 5 Tryd.underlying22 Tryd.underlying5 Tryd.underlying9 B m d u.lay hm.symm (hB.keep hw (fun _ _ h => h))⟩
                  have hS2 : ∀ w', Chg (fun _ => False) wc w' → Calls Tryd.prog 18 #[.agg #[.int .i64 f.id, .int .i64 f.ver, .int .i64 f.tm, .int .i64 f.ty, .int .i64 f.node, .int .i64 f.m, .string f.nm, .slice f.A f.bs.length f.c, .slice f.D f.dl.length f.dc], .agg #[.int .i64 u.id, .int .i64 u.ver, .int .i64 u.tm, .int .i64 u.ty, .int .i64 u.node, .int .i64 u.m, .string u.nm, .slice u.A u.bs.length u.c, .slice u.D u.dl.length u.dc]] w' fun e w'' => (∃ b : Bool, e = .returned (.bool b) ∧ (b = true ↔ sa = sb)) ∧ Chg (fun _ => False) w' w'' := fun w' hw => (same_f f u w' (hR2.still hw) (hU2.still hw)).mono fun e w'' ⟨⟨b, h1, h2⟩, h3⟩ => ⟨⟨b, h1, by rw [h2, hsa, hsb, hiff]⟩, h3⟩
                  have k0 : Chg (fun _ => False) wc wc.drew := (Chg.refl _ _).drew
                  clear hiff hsa hsb hr hr' hn hm hA hB be2 bf2 hR2 hU2
                  by_cases hab : sa = sb
                  · subst hab
                    have hS3 : ∀ w', Chg (fun _ => False) wc w' → Calls Tryd.prog 18 #[.agg #[.int .i64 f.id, .int .i64 f.ver, .int .i64 f.tm, .int .i64 f.ty, .int .i64 f.node, .int .i64 f.m, .string f.nm, .slice f.A f.bs.length f.c, .slice f.D f.dl.length f.dc], .agg #[.int .i64 u.id, .int .i64 u.ver, .int .i64 u.tm, .int .i64 u.ty, .int .i64 u.node, .int .i64 u.m, .string u.nm, .slice u.A u.bs.length u.c, .slice u.D u.dl.length u.dc]] w' fun e w'' => e = .returned (.bool true) ∧ Chg (fun _ => False) w' w'' := fun w' hw => (hS2 w' hw).mono fun e w'' ⟨⟨b, h1, h2⟩, h3⟩ => ⟨by rw [h1, h2.2 rfl], h3⟩
                    clear hS2
                    go_region_held3 (fun w' => w'.cell? ⟨ge, 0, none⟩ = some (.int .i64 f.id) ∧ w'.cell? ⟨ge, 1, none⟩ = some (.int .i64 f.ver) ∧ w'.cell? ⟨ge, 2, none⟩ = some (.int .i64 f.tm) ∧ w'.cell? ⟨ge, 3, none⟩ = some (.int .i64 f.ty) ∧ w'.cell? ⟨ge, 4, none⟩ = some (.int .i64 f.node) ∧ w'.cell? ⟨ge, 5, none⟩ = some (.int .i64 f.m) ∧ w'.cell? ⟨ge, 6, none⟩ = some (.string f.nm) ∧ w'.cell? ⟨ge, 7, none⟩ = some (.slice f.A f.bs.length f.c) ∧ w'.cell? ⟨ge, 8, none⟩ = some (.slice f.D f.dl.length f.dc) ∧ w'.cell? ⟨gf, 0, none⟩ = some (.int .i64 u.id) ∧ w'.cell? ⟨gf, 1, none⟩ = some (.int .i64 u.ver) ∧ w'.cell? ⟨gf, 2, none⟩ = some (.int .i64 u.tm) ∧ w'.cell? ⟨gf, 3, none⟩ = some (.int .i64 u.ty) ∧ w'.cell? ⟨gf, 4, none⟩ = some (.int .i64 u.node) ∧ w'.cell? ⟨gf, 5, none⟩ = some (.int .i64 u.m) ∧ w'.cell? ⟨gf, 6, none⟩ = some (.string u.nm) ∧ w'.cell? ⟨gf, 7, none⟩ = some (.slice u.A u.bs.length u.c) ∧ w'.cell? ⟨gf, 8, none⟩ = some (.slice u.D u.dl.length u.dc) ∧ (convert 22 9 (.slice A n c)).run Tryd.prog w' = .ok (.string sa) w' ∧ (convert 22 9 (.slice B m d)).run Tryd.prog w' = .ok (.string sa) w') (first | exact hSk _ k5 | exact hSk _ k0) ((go_at_call 18; (with_reducible refine (hS3 _ k0).mono ?_); rintro e w5 ⟨rfl, hc5⟩; have k5 := k0.trans hc5 (fun x hx => hx.elim)))
                    all_goals
                      go_wp2_with fail
                      go_meet
                      exact ⟨rfl, by first | exact k5 | exact k0⟩
                  · have f2 : ¬ sa.toList = sb.toList := fun e => hab (toList_eq e)
                    have f0 : (sa.toList == sb.toList) = false := by simpa using f2
                    have f1 : decide (sa = sb) = false := by simpa using hab
                    have hS3 : ∀ w', Chg (fun _ => False) wc w' → Calls Tryd.prog 18 #[.agg #[.int .i64 f.id, .int .i64 f.ver, .int .i64 f.tm, .int .i64 f.ty, .int .i64 f.node, .int .i64 f.m, .string f.nm, .slice f.A f.bs.length f.c, .slice f.D f.dl.length f.dc], .agg #[.int .i64 u.id, .int .i64 u.ver, .int .i64 u.tm, .int .i64 u.ty, .int .i64 u.node, .int .i64 u.m, .string u.nm, .slice u.A u.bs.length u.c, .slice u.D u.dl.length u.dc]] w' fun e w'' => e = .returned (.bool false) ∧ Chg (fun _ => False) w' w'' := fun w' hw => (hS2 w' hw).mono fun e w'' ⟨⟨b, h1, h2⟩, h3⟩ => ⟨by rw [h1]; cases b; rfl; exact absurd (h2.1 rfl) hab, h3⟩
                    clear hS2
                    go_region_held3 (fun w' => w'.cell? ⟨ge, 0, none⟩ = some (.int .i64 f.id) ∧ w'.cell? ⟨ge, 1, none⟩ = some (.int .i64 f.ver) ∧ w'.cell? ⟨ge, 2, none⟩ = some (.int .i64 f.tm) ∧ w'.cell? ⟨ge, 3, none⟩ = some (.int .i64 f.ty) ∧ w'.cell? ⟨ge, 4, none⟩ = some (.int .i64 f.node) ∧ w'.cell? ⟨ge, 5, none⟩ = some (.int .i64 f.m) ∧ w'.cell? ⟨ge, 6, none⟩ = some (.string f.nm) ∧ w'.cell? ⟨ge, 7, none⟩ = some (.slice f.A f.bs.length f.c) ∧ w'.cell? ⟨ge, 8, none⟩ = some (.slice f.D f.dl.length f.dc) ∧ w'.cell? ⟨gf, 0, none⟩ = some (.int .i64 u.id) ∧ w'.cell? ⟨gf, 1, none⟩ = some (.int .i64 u.ver) ∧ w'.cell? ⟨gf, 2, none⟩ = some (.int .i64 u.tm) ∧ w'.cell? ⟨gf, 3, none⟩ = some (.int .i64 u.ty) ∧ w'.cell? ⟨gf, 4, none⟩ = some (.int .i64 u.node) ∧ w'.cell? ⟨gf, 5, none⟩ = some (.int .i64 u.m) ∧ w'.cell? ⟨gf, 6, none⟩ = some (.string u.nm) ∧ w'.cell? ⟨gf, 7, none⟩ = some (.slice u.A u.bs.length u.c) ∧ w'.cell? ⟨gf, 8, none⟩ = some (.slice u.D u.dl.length u.dc) ∧ (convert 22 9 (.slice A n c)).run Tryd.prog w' = .ok (.string sa) w' ∧ (convert 22 9 (.slice B m d)).run Tryd.prog w' = .ok (.string sb) w') (first | exact hSk _ k5 | exact hSk _ k0) ((go_at_call 18; (with_reducible refine (hS3 _ k0).mono ?_); rintro e w5 ⟨rfl, hc5⟩; have k5 := k0.trans hc5 (fun x hx => hx.elim)))
                    all_goals
                      go_wp2_with fail
                      go_meet
                      exact ⟨rfl, by first | exact k5 | exact k0⟩
                · clear hr hr' hn hA
                  go_quiet (fail)
                  go_wp2_with fail
                  go_meet
                  exact ⟨rfl, (Chg.refl _ _).drewN _⟩
              · clear hr
                go_quiet (fail)
                go_wp2_with fail
                go_meet
                exact ⟨rfl, (Chg.refl _ _).drewN _⟩
            case rest =>
              obtain ⟨rfl, hcB⟩ := hcut
              have hcX := hc2.trans hcB (fun x hx => hx.elim)
              have hxr2 := HXD.out.keep hcX (fun _ _ h => h)
              have hrd := read_any2 a2 len2 cap2 xs wc hxr2 HXL.out (by omega) HXB.out
              clear HK HJ be2 bf2 hR2 hU2 hc2 hcB
              go_upto_region 11 with fail
              go_cut [15, 16] from 65 to 69 (fun z k w' => ∃ (gz : Nat) (zf : EvF) (q : Int), z = .pointer (some ⟨gz, 0, none⟩) ∧ k = .int .i64 q ∧ ((q = 0 ∧ BoxAt w' gz 28 zf.row ∧ EvRd w' zf ∧ zf.right = true ∧ zf.lay = xs) ∨ q = 5) ∧ Chg (fun _ => False) wc w')
              case first =>
                go_wp2_with (go_at_call 14; go_must (refine hrd.mono ?_; rintro e w6 ⟨id, ver, tm, ty, node, m1, nm, A1, c1, bs, D1, dc, dl, q, rfl, hq, hc6⟩; have HQ := Lib.hid hq; clear hq))
                go_meet
                have hca := (Chg.refl (fun _ => False) w6).alloc (.cells #[.int .i64 id, .int .i64 ver, .int .i64 tm, .int .i64 ty, .int .i64 node, .int .i64 m1, .string nm, .slice A1 bs.length c1, .slice D1 dl.length dc] 28)
                refine ⟨w6.heap.size, ⟨id, ver, tm, ty, node, m1, nm, A1, c1, bs, D1, dc, dl⟩, q, rfl, rfl, ?_, hc6.alloc _⟩
                rcases HQ.out with ⟨rfl, h1, h2, h3⟩ | rfl
                · exact .inl ⟨rfl, BoxAt.new w6 _ _, h1.still hca, h2, h3⟩
                · exact .inr rfl
              case rest =>
                clear hrd hxr2
                obtain ⟨gz, z, q, rfl, rfl, hq, hcB⟩ := hcut
                have hcY := hcX.trans hcB (fun x hx => hx.elim)
                clear hcX hcB
                rcases hq with ⟨rfl, bz, hz, hzr, hzl⟩ | rfl
                · have HZR := Lib.hid hzr
                  have HZL := Lib.hid hzl
                  clear hzr hzl
                  go_wp2_with (first
                    | (go_at_call 8; go_must (refine hL.mono ?_; rintro e w8 ⟨A8, c8, rfl, hr8, hc8⟩; have v8 := hcv w8 A8 c8 hr8; have hcZ := (hcY.trans hc7 (fun x hx => hx.elim)).trans hc8 (fun x hx => hx.elim); have v9 := hcv w8 a2 cap2 (HXD.out.keep hcZ (fun _ _ h => h))))
                    | (go_at_call 16; go_must (refine (known10_any _).mono ?_; rintro e w7 ⟨rfl, hc7⟩; have b7 := bz.keep hc7 (fun h => h); have hL := lay_yes z w7 (hz.still hc7) HZR.out; rw [HZL.out, HXL.out] at hL; simp only [EvF.val, EvF.row] at hL; have hcv := (fun (w' : World) (C : Option Addr) (e : Nat) (h : Rd w' C (xs.map (Value.int .u8))) => run_convert_rd (P := Tryd.prog) w' 22 9 5 Tryd.underlying22 Tryd.underlying5 Tryd.underlying9 C len2 e xs HXL.out h); have q0 : w7.cell? ⟨gz, 0, none⟩ = some (.int .i64 z.id) := b7.cell 0 rfl; have q1 : w7.cell? ⟨gz, 1, none⟩ = some (.int .i64 z.ver) := b7.cell 1 rfl; have q2 : w7.cell? ⟨gz, 2, none⟩ = some (.int .i64 z.tm) := b7.cell 2 rfl; have q3 : w7.cell? ⟨gz, 3, none⟩ = some (.int .i64 z.ty) := b7.cell 3 rfl; have q4 : w7.cell? ⟨gz, 4, none⟩ = some (.int .i64 z.node) := b7.cell 4 rfl; have q5 : w7.cell? ⟨gz, 5, none⟩ = some (.int .i64 z.m) := b7.cell 5 rfl; have q6 : w7.cell? ⟨gz, 6, none⟩ = some (.string z.nm) := b7.cell 6 rfl; have q7 : w7.cell? ⟨gz, 7, none⟩ = some (.slice z.A z.bs.length z.c) := b7.cell 7 rfl; have q8 : w7.cell? ⟨gz, 8, none⟩ = some (.slice z.D z.dl.length z.dc) := b7.cell 8 rfl)))
                  go_ret
                  exact ⟨rfl, hcZ⟩
                · go_wp2_with (first
                    | (go_at_call 16; (with_reducible refine (known10_any w7).mono ?_); rintro e w8 ⟨rfl, hc8⟩)
                    | (go_at_call 16; go_must (refine (known10_any _).mono ?_; rintro e w7 ⟨rfl, hc7⟩)))
                  go_ret
                  exact ⟨rfl, (hcY.trans hc7 (fun x hx => hx.elim)).trans hc8 (fun x hx => hx.elim)⟩
end Go.Proofs.YtngfimjbgopgjaaDoor.eventBack
