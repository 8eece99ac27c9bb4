/- Contract of cutoverlaw10.one: it gives some event. -/
import Derived.Test.YtngfimjbgopgjaaGreatDoorHDefs
import Derived.Test.YtngfimjbgopgjaaGreatDoorHName
import Derived.Test.YtngfimjbgopgjaaGreatDoorRawAll
import Derived.Test.YtngfimjbgopgjaaGreatDoorHand
import Derived.Test.YtngfimjbgopgjaaGreatDoorRdKnown
import Derived.Test.YtngfimjbgopgjaaGreatDoorEvSame
import Derived.Deep.RegionHeld3
import Derived.Deep.CutBlock
import Derived.Deep.DeepCutAuto
namespace Go.Proofs.YtngfimjbgopgjaaGreatDoor
open Go.RowKit
set_option linter.unusedVariables false

/-- An event: its fields, and where its data and its Defs lie. -/
structure EvF where
  id : Int
  ver : Int
  tm : Int
  ty : Int
  node : Int
  m : Int
  nm : ByteArray
  A : Option Addr
  c : Nat
  bs : List Int
  D : Option Addr
  dc : Nat
  dl : List Df
def EvF.row (f : EvF) : Array Value := #[.int .i64 f.id, .int .i64 f.ver, .int .i64 f.tm, .int .i64 f.ty, .int .i64 f.node, .int .i64 f.m, .string f.nm, .slice f.A f.bs.length f.c, .slice f.D f.dl.length f.dc]
def EvF.val (f : EvF) : Value := .agg f.row
/-- What is known of it: short, its data and Defs lie behind block g. -/
structure EvOk (w : World) (g : Nat) (f : EvF) : Prop where
  nm : f.nm.size ≤ 5
  bn : f.bs.length ≤ 41
  byt : ∀ z ∈ f.bs, 0 ≤ z ∧ z ≤ 255
  rd : Rd w f.A (f.bs.map (Value.int .u8))
  ds : RdDf w f.D f.dl
  dn : f.dl.length ≤ 6
  ns : ∀ d ∈ f.dl, d.ns.length ≤ 255
  offA : ∀ x, In f.A x → g < x
  offD : ∀ x, In f.D x → g < x
  offN : ∀ d ∈ f.dl, ∀ x, In d.A x → g < x
theorem EvOk.keep {S : Nat → Prop} {w w' : World} {g : Nat} {f : EvF} (h : EvOk w g f) (hc : Chg S w w') (hS : ∀ x, S x → x ≤ g) : EvOk w' g f :=
  ⟨h.nm, h.bn, h.byt, h.rd.keep hc (fun x hx hs => by have := h.offA x hx; have := hS x hs; omega), h.ds.keep hc (fun _ x hx hs => by have := h.offD x hx; have := hS x hs; omega) (fun d hd _ x hx hs => by have := h.offN d hd x hx; have := hS x hs; omega), h.dn, h.ns, h.offA, h.offD, h.offN⟩
theorem EvOk.less {w : World} {g g' : Nat} {f : EvF} (h : EvOk w g f) (hg : g' ≤ g) : EvOk w g' f :=
  ⟨h.nm, h.bn, h.byt, h.rd, h.ds, h.dn, h.ns, fun x hx => Nat.lt_of_le_of_lt hg (h.offA x hx), fun x hx => Nat.lt_of_le_of_lt hg (h.offD x hx), fun d hd x hx => Nat.lt_of_le_of_lt hg (h.offN d hd x hx)⟩
theorem EvOk.bare (w : World) (g : Nat) (id ver tm ty node m : Int) : EvOk w g ⟨id, ver, tm, ty, node, m, { data := #[] }, none, 0, [], none, 0, []⟩ :=
  ⟨Nat.zero_le _, Nat.zero_le _, (fun z hz => by cases hz), Rd.nil _ _, RdDf.nil _ _, Nat.zero_le _, (fun d hd => by cases hd), (fun x hx => by cases hx), (fun x hx => by cases hx), (fun d hd => by cases hd)⟩
theorem EvOk.num {w : World} {g : Nat} {f : EvF} (h : EvOk w g f) (id ver tm ty node m : Int) : EvOk w g ⟨id, ver, tm, ty, node, m, f.nm, f.A, f.c, f.bs, f.D, f.dc, f.dl⟩ := ⟨h.nm, h.bn, h.byt, h.rd, h.ds, h.dn, h.ns, h.offA, h.offD, h.offN⟩
theorem EvOk.name {w : World} {g : Nat} {f : EvF} (h : EvOk w g f) (nm : ByteArray) (hs : nm.size ≤ 5) : EvOk w g ⟨f.id, f.ver, f.tm, f.ty, f.node, f.m, nm, f.A, f.c, f.bs, f.D, f.dc, f.dl⟩ := ⟨hs, h.bn, h.byt, h.rd, h.ds, h.dn, h.ns, h.offA, h.offD, h.offN⟩
theorem EvOk.data {w : World} {g : Nat} {f : EvF} (h : EvOk w g f) (A : Option Addr) (c : Nat) (bs : List Int) (h1 : bs.length ≤ 41) (h2 : ∀ z ∈ bs, 0 ≤ z ∧ z ≤ 255) (h3 : Rd w A (bs.map (Value.int .u8))) (h4 : ∀ x, In A x → g < x) : EvOk w g ⟨f.id, f.ver, f.tm, f.ty, f.node, f.m, f.nm, A, c, bs, f.D, f.dc, f.dl⟩ := ⟨h.nm, h1, h2, h3, h.ds, h.dn, h.ns, h4, h.offD, h.offN⟩
theorem EvOk.defs {w : World} {g : Nat} {f : EvF} (h : EvOk w g f) (D : Option Addr) (dc : Nat) (dl : List Df) (h1 : RdDf w D dl) (h2 : dl.length ≤ 6) (h3 : ∀ d ∈ dl, d.ns.length ≤ 255 ∧ ∀ x, In d.A x → g < x) (h4 : ∀ x, In D x → g < x) : EvOk w g ⟨f.id, f.ver, f.tm, f.ty, f.node, f.m, f.nm, f.A, f.c, f.bs, D, dc, dl⟩ := ⟨h.nm, h.bn, h.byt, h.rd, h1, h2, fun d hd => (h3 d hd).1, h.offA, h4, fun d hd => (h3 d hd).2⟩
/-- An event in its box. -/
def EvAt (w : World) (g : Nat) : Prop := ∃ f : EvF, BoxAt w g 32 f.row ∧ EvOk w g f
theorem chg_put (w : World) (g j : Nat) (u : Value) : Chg (· = g) w (w.setCell ⟨g, j, none⟩ u) := (Chg.refl (· = g) w).setCell (p := ⟨g, j, none⟩) (.inl rfl) _
theorem EvOk.put {w : World} {g : Nat} {f : EvF} (h : EvOk w g f) (j : Nat) (u : Value) : EvOk (w.setCell ⟨g, j, none⟩ u) g f := h.keep (chg_put w g j u) (fun x hx => Nat.le_of_eq hx)
theorem one_new (w1 : World) (a b c d : Int) : ∃ f : EvF, BoxAt (w1.alloc (.cells #[.int .i64 a, .int .i64 b, .int .i64 c, .int .i64 d, .int .i64 0, .int .i64 0, .string { data := #[] }, .slice none 0 0, .slice none 0 0] 32)).drew w1.heap.size 32 f.row ∧ EvOk (w1.alloc (.cells #[.int .i64 a, .int .i64 b, .int .i64 c, .int .i64 d, .int .i64 0, .int .i64 0, .string { data := #[] }, .slice none 0 0, .slice none 0 0] 32)).drew w1.heap.size f ∧ Chg (fun _ => False) w1 (w1.alloc (.cells #[.int .i64 a, .int .i64 b, .int .i64 c, .int .i64 d, .int .i64 0, .int .i64 0, .string { data := #[] }, .slice none 0 0, .slice none 0 0] 32)).drew :=
  ⟨⟨a, b, c, d, 0, 0, { data := #[] }, none, 0, [], none, 0, []⟩, BoxAt.new w1 32 _, EvOk.bare _ _ _ _ _ _ _ _, ((Chg.refl _ _).alloc _).drew⟩
/-- Some event, in memory of its own. -/
def EvGave (w : World) (e : Ending) (w' : World) : Prop := ∃ f : EvF, e = .returned f.val ∧ EvOk w' w.heap.size f ∧ Chg (fun _ => False) w w'

set_option maxHeartbeats 4000000 in
set_option maxRecDepth 20000 in
theorem one_any (r : RawV) (w : World) (h : RawOk w r) (hN : NamesAt w 0) : Calls Tryz.prog 6 #[r.val] w (EvGave w) := by
  obtain ⟨id, ver, tm, ty, node, m, name, defs, how, A, n, c, bs, L, ln, lc⟩ := r
  have HO := Lib.hid h
  have HN := Lib.hid hN
  clear h hN
  unfold RawV.val
  obtain ⟨w1, hw1⟩ : ∃ w1, w1 = (w.alloc (.cells #[.int .i64 id, .int .i64 ver, .int .i64 tm, .int .i64 ty, .int .i64 node, .int .i64 m, .int .i64 name, .int .i64 defs, .int .i64 how, .slice A n c, .slice L ln lc] 26)).alloc (.cells #[.int .i64 0, .int .i64 0, .int .i64 0, .int .i64 0, .int .i64 0, .int .i64 0, .string { data := #[] }, .slice none 0 0, .slice none 0 0] 32) := ⟨_, rfl⟩
  have bx : BoxAt w1 w.heap.size 26 #[.int .i64 id, .int .i64 ver, .int .i64 tm, .int .i64 ty, .int .i64 node, .int .i64 m, .int .i64 name, .int .i64 defs, .int .i64 how, .slice A n c, .slice L ln lc] := by
    rw [hw1]
    exact (BoxAt.new w _ _).keep ((Chg.refl (fun _ => False) _).alloc _) (fun h => h)
  have bz : BoxAt w1 (w.heap.size + 1) 32 #[.int .i64 0, .int .i64 0, .int .i64 0, .int .i64 0, .int .i64 0, .int .i64 0, .string { data := #[] }, .slice none 0 0, .slice none 0 0] := by
    rw [hw1]
    exact box2 w _ _ _
  have hc1 : Chg (fun _ => False) w w1 := by rw [hw1]; exact ((Chg.refl _ _).alloc _).alloc _
  have hP : ∀ (x m : Int) w', 1 ≤ m → m ≤ 1000 → Calls Tryz.prog 5 #[.int .i64 x, .int .i64 m] w' fun e w'' => e = .returned (.int .i64 (x % m)) ∧ w' = w'' := fun x m w' h1 h2 => pick_any _ _ w' (by omega) (by omega)
  have hV : ∀ w', Calls Tryz.prog 17 #[.int .i64 1, .int .i64 ver] w' fun e w'' => e = .returned (.int .i64 (hverV 1 ver)) ∧ w' = w'' := fun w' => hVersion_any 1 ver w' (by omega) (by omega)
  go_enter Tryz.func6, Tryz.ntmps6
  go_upto_region 1 with fail
  rw [← hw1]
  clear hw1
  go_cut [3] from 4 to 24 (fun e w' => ∃ f : EvF, e = .pointer (some ⟨w1.heap.size, 0, none⟩) ∧ BoxAt w' w1.heap.size 32 f.row ∧ EvOk w' w1.heap.size f ∧ Chg (fun _ => False) w1 w')
  case first =>
    have q0 := bx.cell 0 rfl
    have q1 := bx.cell 1 rfl
    have q2 := bx.cell 2 rfl
    have q3 := bx.cell 3 rfl
    have k0 : Chg (fun _ => False) w1 w1.drew := (Chg.refl _ _).drew
    clear bx bz hc1
    go_region_held3 (fun w' => w'.cell? ⟨w.heap.size, 0, none⟩ = some (.int .i64 id) ∧ w'.cell? ⟨w.heap.size, 1, none⟩ = some (.int .i64 ver) ∧ w'.cell? ⟨w.heap.size, 2, none⟩ = some (.int .i64 tm) ∧ w'.cell? ⟨w.heap.size, 3, none⟩ = some (.int .i64 ty)) (first | exact ⟨(k0.alloc _).cell_some q0 (fun h => h), (k0.alloc _).cell_some q1 (fun h => h), (k0.alloc _).cell_some q2 (fun h => h), (k0.alloc _).cell_some q3 (fun h => h)⟩ | exact ⟨k0.cell_some q0 (fun h => h), k0.cell_some q1 (fun h => h), k0.cell_some q2 (fun h => h), k0.cell_some q3 (fun h => h)⟩) (first
      | (go_at_call 5; (with_reducible refine (hP _ 40 _ (by decide) (by decide)).mono ?_); rintro e w' ⟨rfl, rfl⟩)
      | (go_at_call 5; (with_reducible refine (hP _ 4 _ (by decide) (by decide)).mono ?_); rintro e w' ⟨rfl, rfl⟩)
      | (go_at_call 5; (with_reducible refine (hP _ 1000 _ (by decide) (by decide)).mono ?_); rintro e w' ⟨rfl, rfl⟩)
      | (go_at_call 5; (with_reducible refine (hP _ 12 _ (by decide) (by decide)).mono ?_); rintro e w' ⟨rfl, rfl⟩)
      | (go_at_call 17; (with_reducible refine (hV _).mono ?_); rintro e w' ⟨rfl, rfl⟩))
    all_goals
      go_wp2_with fail
      go_meet
      exact (one_new w1 _ _ _ _).imp fun f h => ⟨rfl, h⟩
  case rest =>
    obtain ⟨f, rfl, bE, hE, hcE⟩ := hcut
    obtain ⟨g, hg⟩ : ∃ g, g = w1.heap.size := ⟨_, rfl⟩
    have hgx : w.heap.size < g := by rw [hg]; exact bx.lt
    have hgz : w.heap.size + 1 < g := by rw [hg]; exact bz.lt
    rw [← hg] at bE hE ⊢
    have bxE := bx.keep hcE (fun h => h)
    have bzE := bz.keep hcE (fun h => h)
    have hcW := hc1.trans hcE (fun x hx => hx.elim)
    clear hg hP hV bx bz hc1 hcE w1
    obtain ⟨id1, ver1, tm1, ty1, node1, m1, nm1, A1, c1, bs1, D1, dc1, dl1⟩ := f
    have q3 : wc.cell? ⟨g, 3, none⟩ = some (.int .i64 ty1) := bE.cell 3 rfl
    go_upto_block 0 with fail
    clear q3
    go_cut [27] from 28 to 65 (fun _ w' => EvAt w' g ∧ Chg (· = g) wc w')
    case first =>
      have hgl := bE.lt
      have hgx2 : w.heap.size ≠ g := by omega
      have hN2 : NamesAt wc 0 := HN.out.keep hcW (fun h => h)
      have hO2 := HO.out.still hcW
      have hW := hcW.size
      clear bzE hcW
      rcases (by omega : ty1 = 1 ∨ (ty1 = 2 ∨ ty1 = 3 ∨ ty1 = 4) ∨ ty1 = 5 ∨ (ty1 = 6 ∨ ty1 = 7) ∨ (ty1 < 1 ∨ 7 < ty1)) with rfl | hty | rfl | hty | hty
      · have p10 := bxE.cell 10 rfl
        have p7 := bxE.cell 7 rfl
        go_wp2_with (go_at_call 18; go_must (refine (hDefs_any L ln lc defs wc hO2.ds).mono ?_; rintro e w2 ⟨D, dn, dc, dl, rfl, hR, hdl, hdn, hns, hD, hc2⟩; subst hdl; have b2 := bE.keep hc2 (fun h => h); have y8 := b2.cell 8 rfl; have z8 := b2.fz 8))
        go_meet
        have hE2 := (hE.keep hc2 (fun x hx => hx.elim)).defs D dc dl hR hdn (fun d hd => ⟨(hns d hd).1, fun x hx => by have := (hns d hd).2 x hx; omega⟩) (fun x hx => by have := hD x hx; omega)
        exact ⟨⟨_, b2.set 8 _, hE2.put 8 _⟩, ((hc2.mono (fun x hx => hx.elim)).trans (chg_put w2 g 8 _) (fun x hx => .inl hx))⟩
      · have p4 := bxE.cell 4 rfl
        have p5 := fun v => (bxE.keep (chg_put wc g 4 v) hgx2).cell 5 rfl
        have y4 := bE.cell 4 rfl
        have z4 := bE.fz 4
        have y5 := fun v => (bE.set 4 v).cell 5 rfl
        have z5 := fun v => (bE.set 4 v).fz 5
        rcases hty with rfl | rfl | rfl
        all_goals
          go_wp2_with (first
            | (go_at_call 5; (with_reducible refine (pick_any _ 8 _ (by decide) (by decide)).mono ?_); rintro e w' ⟨rfl, rfl⟩)
            | (go_at_call 5; (with_reducible refine (pick_any _ 5 _ (by decide) (by decide)).mono ?_); rintro e w' ⟨rfl, rfl⟩))
          go_meet
          exact ⟨⟨⟨id1, ver1, tm1, _, node % 8, 1 + m % 5, nm1, A1, c1, bs1, D1, dc1, dl1⟩, (bE.set 4 (.int .i64 (node % 8))).set 5 (.int .i64 (1 + m % 5)), ((hE.num id1 ver1 tm1 _ (node % 8) (1 + m % 5)).put 4 _).put 5 _⟩, (chg_put wc g 4 _).trans (chg_put _ g 5 _) (fun x hx => .inl hx)⟩
      · have p6 := bxE.cell 6 rfl
        have p5 := fun v => (bxE.keep (chg_put wc g 6 v) hgx2).cell 5 rfl
        have y6 := bE.cell 6 rfl
        have z6 := bE.fz 6
        have y5 := fun v => (bE.set 6 v).cell 5 rfl
        have z5 := fun v => (bE.set 6 v).fz 5
        go_wp2_with (first
          | (go_at_call 19; (with_reducible refine (hName_any _ _ hN2).mono ?_); rintro e w' ⟨⟨s, rfl, hs⟩, rfl⟩)
          | (go_at_call 5; (with_reducible refine (pick_any _ 1000 _ (by decide) (by decide)).mono ?_); rintro e w' ⟨rfl, rfl⟩))
        go_meet
        exact ⟨⟨⟨id1, ver1, tm1, _, node1, 1 + m % 1000, s, A1, c1, bs1, D1, dc1, dl1⟩, (bE.set 6 (.string s)).set 5 (.int .i64 (1 + m % 1000)), (((hE.num id1 ver1 tm1 _ node1 (1 + m % 1000)).name s hs).put 6 _).put 5 _⟩, (chg_put wc g 6 _).trans (chg_put _ g 5 _) (fun x hx => .inl hx)⟩
      · have p6 := bxE.cell 6 rfl
        have y6 := bE.cell 6 rfl
        have z6 := bE.fz 6
        rcases hty with rfl | rfl
        all_goals
          go_wp2_with (go_at_call 19; (with_reducible refine (hName_any _ _ hN2).mono ?_); rintro e w' ⟨⟨s, rfl, hs⟩, rfl⟩)
          go_meet
          exact ⟨⟨⟨id1, ver1, tm1, _, node1, m1, s, A1, c1, bs1, D1, dc1, dl1⟩, bE.set 6 (.string s), (hE.name s hs).put 6 _⟩, chg_put wc g 6 _⟩
      · have f1 : ¬ ty1 = 1 := by omega
        have f2 : ¬ ty1 = 2 := by omega
        have f3 : ¬ ty1 = 3 := by omega
        have f4 : ¬ ty1 = 4 := by omega
        have f5 : ¬ ty1 = 5 := by omega
        have f6 : ¬ ty1 = 6 := by omega
        have f7 : ¬ ty1 = 7 := by omega
        go_wp2_with fail
        go_meet
        exact ⟨⟨_, bE, hE⟩, Chg.refl _ _⟩
    case rest =>
      obtain ⟨⟨f, bE', hE'⟩, hcS⟩ := hcut
      clear bE hE
      have bxF := bxE.keep hcS (fun (e : w.heap.size = g) => by omega)
      have bzF := bzE.keep hcS (fun (e : w.heap.size + 1 = g) => by omega)
      have hcT := hcW.trans hcS (fun x hx => .inr (by rw [hx]; omega))
      clear bxE bzE hcW hcS
      obtain ⟨id1, ver1, tm1, ty1, node1, m1, nm1, A1, c1, bs1, D1, dc1, dl1⟩ := f
      have q3 : wc.cell? ⟨g, 3, none⟩ = some (.int .i64 ty1) := bE'.cell 3 rfl
      go_upto_region 16 with fail
      go_cut [73] from 66 to 72 (fun v w' => (∃ b : Bool, v = .bool b) ∧ w' = wc)
      case first =>
        rcases (by omega : ty1 = 3 ∨ ty1 = 7 ∨ (¬ ty1 = 3 ∧ ¬ ty1 = 7)) with rfl | rfl | ⟨f3, f7⟩
        all_goals
          go_wp2_with fail
          all_goals
            go_meet
            exact ⟨⟨_, rfl⟩, rfl⟩
      case rest =>
        obtain ⟨⟨b, rfl⟩, rfl⟩ := hcut
        clear q3
        go_upto_if 73 with fail
        go_cut [74] from 75 to 77 (fun _ w' => EvAt w' g ∧ Chg (· = g) wc w')
        case first =>
          cases b
          · go_wp2_with fail
            go_meet
            exact ⟨⟨_, bE', hE'⟩, Chg.refl _ _⟩
          · have p9 := bxF.cell 9 rfl
            have hO2 := HO.out.still hcT
            have hgl := bE'.lt
            have hF := few_any A c n 41 bs wc hO2.rd hO2.len (by have := hO2.most; simp only at this; omega) hO2.cap (by omega)
            have hb1 : (bs.take 41).length ≤ 41 := by rw [List.length_take]; omega
            have hb2 : ∀ z ∈ bs.take 41, 0 ≤ z ∧ z ≤ 255 := fun z hz => hO2.byt z (List.mem_of_mem_take hz)
            obtain ⟨bt, hbt⟩ : ∃ bt, bt = bs.take 41 := ⟨_, rfl⟩
            rw [← hbt] at hF hb1 hb2
            clear hbt
            go_wp2_with (go_at_call 12; go_must (refine hF.mono ?_; rintro e w2 ⟨A2, c2, rfl, ho2, hc2⟩; have b2 := bE'.keep hc2 (fun h => h); have y7 := b2.cell 7 rfl; have z7 := b2.fz 7))
            go_meet
            have hE2 := (hE'.keep hc2 (fun x hx => hx.elim)).data A2 c2 bt hb1 hb2 (Rd.of_own ho2) (fun x hx => by have := (own_lt ho2 hx).1; omega)
            exact ⟨⟨_, b2.set 7 _, hE2.put 7 _⟩, ((hc2.mono (fun x hx => hx.elim)).trans (chg_put w2 g 7 _) (fun x hx => .inl hx))⟩
        case rest =>
          clear bE' hE'
          obtain ⟨⟨f, bE, hE⟩, hcS⟩ := hcut
          have bxE := bxF.keep hcS (fun (e : w.heap.size = g) => by omega)
          have bzE := bzF.keep hcS (fun (e : w.heap.size + 1 = g) => by omega)
          have hcW := hcT.trans hcS (fun x hx => .inr (by rw [hx]; omega))
          clear bxF bzF hcT hcS
          obtain ⟨id1, ver1, tm1, ty1, node1, m1, nm1, A1, c1, bs1, D1, dc1, dl1⟩ := f
          have p8 := bxE.cell 8 rfl
          go_upto_block 1 with (go_at_call 5; go_must (refine (pick_nat _ _ _ (by omega) (by omega)).mono ?_; rintro e w' ⟨r, hr, rfl, rfl⟩))
          clear p8
          rename_i K1 a1
          go_cut [81] from 82 to 123 (fun _ w' => EvAt w' g ∧ Chg (· = g) wc w')
          case first =>
            have hgl := bE.lt
            have hN2 : NamesAt wc 0 := HN.out.keep hcW (fun h => h)
            have hW := hcW.size
            clear bzE hcW
            rcases (by omega : r = 0 ∨ r = 1 ∨ r = 2 ∨ r = 3 ∨ r = 4 ∨ r = 5 ∨ r = 6 ∨ r = 7 ∨ r = 8 ∨ 8 < r) with rfl | rfl | rfl | rfl | rfl | rfl | rfl | rfl | rfl | hr8
            · have p := bxE.cell 0 rfl
              have y := bE.cell 0 rfl
              have z := bE.fz 0
              go_wp2_with fail
              go_meet
              exact ⟨⟨⟨id, ver1, tm1, ty1, node1, m1, nm1, A1, c1, bs1, D1, dc1, dl1⟩, bE.set 0 _, (hE.num id ver1 tm1 ty1 node1 m1).put 0 _⟩, chg_put wc g 0 _⟩
            · have p := bxE.cell 1 rfl
              have y := bE.cell 1 rfl
              have z := bE.fz 1
              go_wp2_with fail
              go_meet
              exact ⟨⟨⟨id1, ver, tm1, ty1, node1, m1, nm1, A1, c1, bs1, D1, dc1, dl1⟩, bE.set 1 _, (hE.num id1 ver tm1 ty1 node1 m1).put 1 _⟩, chg_put wc g 1 _⟩
            · have p := bxE.cell 2 rfl
              have y := bE.cell 2 rfl
              have z := bE.fz 2
              go_wp2_with fail
              go_meet
              exact ⟨⟨⟨id1, ver1, tm, ty1, node1, m1, nm1, A1, c1, bs1, D1, dc1, dl1⟩, bE.set 2 _, (hE.num id1 ver1 tm ty1 node1 m1).put 2 _⟩, chg_put wc g 2 _⟩
            · have p := bxE.cell 5 rfl
              have y := bE.cell 5 rfl
              have z := bE.fz 5
              go_wp2_with fail
              go_meet
              exact ⟨⟨⟨id1, ver1, tm1, ty1, node1, m, nm1, A1, c1, bs1, D1, dc1, dl1⟩, bE.set 5 _, (hE.num id1 ver1 tm1 ty1 node1 m).put 5 _⟩, chg_put wc g 5 _⟩
            · have p := bxE.cell 4 rfl
              have y := bE.cell 4 rfl
              have z := bE.fz 4
              go_wp2_with (go_at_call 5; (with_reducible refine (pick_any _ 11 _ (by decide) (by decide)).mono ?_); rintro e w' ⟨rfl, rfl⟩)
              go_meet
              exact ⟨⟨⟨id1, ver1, tm1, ty1, node % 11 - 1, m1, nm1, A1, c1, bs1, D1, dc1, dl1⟩, bE.set 4 (.int .i64 (node % 11 - 1)), (hE.num id1 ver1 tm1 ty1 (node % 11 - 1) m1).put 4 _⟩, chg_put wc g 4 _⟩
            · have y := bE.cell 6 rfl
              have z := bE.fz 6
              go_wp2_with fail
              go_meet
              exact ⟨⟨⟨id1, ver1, tm1, ty1, node1, m1, { data := #[78, 111] }, A1, c1, bs1, D1, dc1, dl1⟩, bE.set 6 _, (hE.name _ (by decide)).put 6 _⟩, chg_put wc g 6 _⟩
            · have hca : Chg (fun _ => False) wc (wc.alloc (.cells #[.int .u8 1] 5)) := (Chg.refl _ _).alloc _
              have ba := bE.keep hca (fun h => h)
              have y := ba.cell 7 rfl
              have z := ba.fz 7
              go_wp2_with fail
              go_meet
              rw [← World.setCell_alloc_past _ g _ _ hgl]
              have hE2 := (hE.keep hca (fun x hx => hx.elim)).data (some ⟨wc.heap.size, 0, none⟩) 1 [1] (by decide) (by decide) (Rd.newRow wc 5 #[.int .u8 1] ([1].map (Value.int .u8)) rfl) (fun x hx => by injection hx with hx; simp at hx; omega)
              exact ⟨⟨_, ba.set 7 _, hE2.put 7 _⟩, (hca.mono (fun x hx => hx.elim)).trans (chg_put _ g 7 _) (fun x hx => .inl hx)⟩
            · have p := bxE.cell 3 rfl
              have y := bE.cell 3 rfl
              have z := bE.fz 3
              go_wp2_with fail
              go_meet
              exact ⟨⟨⟨id1, ver1, tm1, ty, node1, m1, nm1, A1, c1, bs1, D1, dc1, dl1⟩, bE.set 3 _, (hE.num id1 ver1 tm1 ty node1 m1).put 3 _⟩, chg_put wc g 3 _⟩
            · go_wp2_with (go_at_call 18; go_must (refine (hDefs_any none 0 0 7 wc ⟨Nat.le_refl _, Nat.zero_le _, fun _ => default, fun i hi => absurd hi (by omega)⟩).mono ?_; rintro e w2 ⟨D, dn, dc, dl, rfl, hR, hdl, hdn, hns, hD, hc2⟩; subst hdl; have b2 := bE.keep hc2 (fun h => h); have y8 := b2.cell 8 rfl; have z8 := b2.fz 8))
              go_meet
              have hE2 := (hE.keep hc2 (fun x hx => hx.elim)).defs D dc dl hR hdn (fun d hd => ⟨(hns d hd).1, fun x hx => by have := (hns d hd).2 x hx; omega⟩) (fun x hx => by have := hD x hx; omega)
              exact ⟨⟨_, b2.set 8 _, hE2.put 8 _⟩, ((hc2.mono (fun x hx => hx.elim)).trans (chg_put w2 g 8 _) (fun x hx => .inl hx))⟩
            · have f0 : ¬ (r : Int) = 0 := by omega
              have f1 : ¬ (r : Int) = 1 := by omega
              have f2 : ¬ (r : Int) = 2 := by omega
              have f3 : ¬ (r : Int) = 3 := by omega
              have f4 : ¬ (r : Int) = 4 := by omega
              have f5 : ¬ (r : Int) = 5 := by omega
              have f6 : ¬ (r : Int) = 6 := by omega
              have f7 : ¬ (r : Int) = 7 := by omega
              have f8 : ¬ (r : Int) = 8 := by omega
              go_wp2_with fail
              go_meet
              exact ⟨⟨_, bE, hE⟩, Chg.refl _ _⟩
          case rest =>
            clear bE hE
            obtain ⟨⟨f, bE, hE⟩, hcS⟩ := hcut
            have bz := bzE.keep hcS (fun (e : w.heap.size + 1 = g) => by omega)
            have hc := hcW.trans hcS (fun x hx => .inr (by rw [hx]; omega))
            clear bxE bzE hcW hcS
            obtain ⟨id1, ver1, tm1, ty1, node1, m1, nm1, A1, c1, bs1, D1, dc1, dl1⟩ := f
            have s0 : wc.cell? ⟨g, 0, none⟩ = some (.int .i64 id1) := bE.cell 0 rfl
            have s1 : wc.cell? ⟨g, 1, none⟩ = some (.int .i64 ver1) := bE.cell 1 rfl
            have s2 : wc.cell? ⟨g, 2, none⟩ = some (.int .i64 tm1) := bE.cell 2 rfl
            have s3 : wc.cell? ⟨g, 3, none⟩ = some (.int .i64 ty1) := bE.cell 3 rfl
            have s4 : wc.cell? ⟨g, 4, none⟩ = some (.int .i64 node1) := bE.cell 4 rfl
            have s5 : wc.cell? ⟨g, 5, none⟩ = some (.int .i64 m1) := bE.cell 5 rfl
            have s6 : wc.cell? ⟨g, 6, none⟩ = some (.string nm1) := bE.cell 6 rfl
            have s7 : wc.cell? ⟨g, 7, none⟩ = some (.slice A1 bs1.length c1) := bE.cell 7 rfl
            have s8 : wc.cell? ⟨g, 8, none⟩ = some (.slice D1 dl1.length dc1) := bE.cell 8 rfl
            have t0 := bz.cell 0 rfl
            have t1 := bz.cell 1 rfl
            have t2 := bz.cell 2 rfl
            have t3 := bz.cell 3 rfl
            have t4 := bz.cell 4 rfl
            have t5 := bz.cell 5 rfl
            have t6 := bz.cell 6 rfl
            have t7 := bz.cell 7 rfl
            have t8 := bz.cell 8 rfl
            have z0 := bz.fz 0
            have z1 := bz.fz 1
            have z2 := bz.fz 2
            have z3 := bz.fz 3
            have z4 := bz.fz 4
            have z5 := bz.fz 5
            have z6 := bz.fz 6
            have z7 := bz.fz 7
            have z8 := bz.fz 8
            go_wp2_with fail
            (try simp only [Exit.inBlock, Exit.then])
            refine bodyPost_ret (results_cell_row rfl _ _ (w.heap.size + 1) _ _ _ _ rfl (BoxAt.set9 bz _ _ _ _ _ _ _ _ _) Tryz.underlying32 rfl evSize) rfl ?_
            have hcS := chg_set9 wc (w.heap.size + 1) (.int .i64 id1) (.int .i64 ver1) (.int .i64 tm1) (.int .i64 ty1) (.int .i64 node1) (.int .i64 m1) (.string nm1) (.slice A1 bs1.length c1) (.slice D1 dl1.length dc1)
            exact ⟨⟨id1, ver1, tm1, ty1, node1, m1, nm1, A1, c1, bs1, D1, dc1, dl1⟩, rfl, (hE.keep hcS (fun x hx => by rw [hx]; omega)).less (by omega), hc.trans hcS (fun x hx => .inr (by rw [hx]; omega))⟩
end Go.Proofs.YtngfimjbgopgjaaGreatDoor
