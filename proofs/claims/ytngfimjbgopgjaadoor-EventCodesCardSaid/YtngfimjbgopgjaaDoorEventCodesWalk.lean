/- EventCodes: the walk of cutoverlaw10.EventCodes (gen_codes.py). -/
import Derived.Test.YtngfimjbgopgjaaDoorEvCon
import Derived.Test.YtngfimjbgopgjaaDoorRawEv
import Derived.Test.YtngfimjbgopgjaaDoorRfRead
import Derived.Test.YtngfimjbgopgjaaDoorRfSameE
import Derived.Test.YtngfimjbgopgjaaDoorEvSame
import Derived.Deep.RegionHeld3
import Derived.BigQuiet
import Derived.Deep.CutBlock
import Derived.Deep.DeepCutAuto
namespace Go.Proofs.YtngfimjbgopgjaaDoor.eventCodes
open Go.RowKit
set_option linter.unusedVariables false

theorem own_cap {base : Nat} {e : TypeId} {size n c : Nat} {A : Option Addr} {xs : List Value} {w : World} (h : w.ownsRow base e size (.slice A n c) n xs) : n ≤ c := by
  rcases h.2 with ⟨h0, h1⟩ | ⟨g9, cap9, cur9, hv9, _, _, hl9, _⟩
  · omega
  · injection hv9 with _ _ h9; omega
/-- What is laid of an event, and the error told. -/
def xsOf (f : EvF) : List Int := if f.right = true then f.lay else []
def kOf (f : EvF) : Int := if f.right = true then 0 else 1
theorem xsOf_byt (f : EvF) (h : ∀ z ∈ f.bs, 0 ≤ z ∧ z ≤ 255) : ∀ z ∈ xsOf f, 0 ≤ z ∧ z ≤ 255 := by
  unfold xsOf
  split
  · exact f.lay_byt h
  · intro z hz; cases hz
theorem xsOf_len (f : EvF) : (xsOf f).length ≤ 1000 := by
  unfold xsOf
  split
  · rename_i h; exact f.lay_len h
  · exact Nat.zero_le _
theorem xsOf_pos (f : EvF) (h : kOf f = 0) : 1 ≤ (xsOf f).length := by
  unfold kOf at h
  unfold xsOf
  split at h
  · rename_i hr
    rw [if_pos hr]
    simp only [EvF.lay, evGB, List.length_append, be_length, List.length_nil]
    omega
  · omega
/-- The bytes that are read. -/
def ZRel (w w' : World) (z : Value) : Prop := ∃ (Z : Option Addr) (zs : List Int) (cz : Nat), z = .slice Z zs.length cz ∧ Rd w' Z (zs.map (Value.int .u8)) ∧ (∀ x ∈ zs, 0 ≤ x ∧ x ≤ 255) ∧ zs.length ≤ cz ∧ zs.length ≤ 140737488355328 ∧ (∀ x, blk Z = some x → x < w'.heap.size) ∧ Chg (fun _ => False) w w'
def LayAs (w : World) (xs : List Int) (k : Int) (e : Ending) (w' : World) : Prop := ∃ (A : Option Addr) (n c : Nat), e = .returned (.tuple #[.slice A n c, .int .i64 k]) ∧ xs.length = n ∧ n ≤ c ∧ Rd w' A (xs.map (Value.int .u8)) ∧ Chg (fun _ => False) w w'
theorem lay_as (f : EvF) (w : World) (h : EvBig w f) : Calls Tryd.prog 8 #[.agg #[.int .i64 f.id, .int .i64 f.ver, .int .i64 f.tm, .int .i64 f.ty, .int .i64 f.node, .int .i64 f.m, .string f.nm, .slice f.A f.bs.length f.c, .slice f.D f.dl.length f.dc]] w (LayAs w (xsOf f) (kOf f)) := by
  refine (layG_any f.id f.ver f.tm f.ty f.node f.m f.nm f.A f.bs.length f.c f.bs f.D f.dl.length f.dc f.dl w h.rd rfl (by have := h.nm; omega) h.ds rfl h.dn h.ns).mono fun e w' ⟨h1, hc⟩ => ?_
  rcases h1 with ⟨hr, A', c', he, ho⟩ | ⟨hr, he⟩
  · have hr' : f.right = true := hr
    exact ⟨A', _, c', by rw [he, kOf, if_pos hr'], by rw [xsOf, if_pos hr']; rfl, own_cap ho, by rw [xsOf, if_pos hr']; exact Rd.of_own ho, hc⟩
  · have hr' : ¬ f.right = true := by rw [show f.right = false from hr]; decide
    exact ⟨none, 0, 0, by rw [he, kOf, if_neg hr'], by rw [xsOf, if_neg hr']; rfl, Nat.le_refl _, by rw [xsOf, if_neg hr']; exact Rd.nil _ _, hc⟩
theorem rlay_as (f : EvF) (w : World) (h : EvBig w f) : Calls Tryd.prog 9 #[.agg #[.int .i64 f.id, .int .i64 f.ver, .int .i64 f.tm, .int .i64 f.ty, .int .i64 f.node, .int .i64 f.m, .string f.nm, .slice f.A f.bs.length f.c, .slice f.D f.dl.length f.dc]] w (LayAs w (xsOf f) (kOf f)) := by
  refine (rlayG_any f.id f.ver f.tm f.ty f.node f.m f.nm f.A f.bs.length f.c f.bs f.D f.dl.length f.dc f.dl w h.rd rfl (by have := h.bn; omega) (by have := h.nm; omega) h.ds rfl h.dn h.ns).mono fun e w' ⟨h1, hc⟩ => ?_
  rcases h1 with ⟨hr, A', c', he, ho, hcap⟩ | ⟨hr, he⟩
  · have hr' : f.right = true := hr
    exact ⟨A', _, c', by rw [he, kOf, if_pos hr'], by rw [xsOf, if_pos hr']; rfl, hcap, by rw [xsOf, if_pos hr']; exact ho, hc⟩
  · have hr' : ¬ f.right = true := by rw [show f.right = false from hr]; decide
    exact ⟨none, 0, 0, by rw [he, kOf, if_neg hr'], by rw [xsOf, if_neg hr']; rfl, Nat.le_refl _, by rw [xsOf, if_neg hr']; exact Rd.nil _ _, hc⟩
theorem right_f (f : EvF) (w : World) (h : EvBig w f) : Calls Tryd.prog 10 #[.agg #[.int .i64 f.id, .int .i64 f.ver, .int .i64 f.tm, .int .i64 f.ty, .int .i64 f.node, .int .i64 f.m, .string f.nm, .slice f.A f.bs.length f.c, .slice f.D f.dl.length f.dc]] w fun e w' => e = .returned (.bool f.right) ∧ Chg (fun _ => False) w w' :=
  rightE_any f.id f.ver f.tm f.ty f.node f.m f.nm f.A f.bs.length f.c f.D f.dl.length f.dc f.dl w (by have := h.nm; omega) h.ds rfl h.dn h.ns
theorem rright_f (f : EvF) (w : World) (h : EvBig w f) : Calls Tryd.prog 11 #[.agg #[.int .i64 f.id, .int .i64 f.ver, .int .i64 f.tm, .int .i64 f.ty, .int .i64 f.node, .int .i64 f.m, .string f.nm, .slice f.A f.bs.length f.c, .slice f.D f.dl.length f.dc]] w fun e w' => e = .returned (.bool f.right) ∧ Chg (fun _ => False) w w' :=
  rRightE_any f.id f.ver f.tm f.ty f.node f.m f.nm f.A f.bs.length f.c f.D f.dl.length f.dc f.dl w (by have := h.nm; omega) h.ds rfl h.dn (by have := h.bn; omega) h.ns
/-- What both Reads give. -/
def ReadAs (w : World) (k0 : Int) (v0 : EvV) (e : Ending) (w' : World) : Prop := ∃ (id ver tm ty node m : Int) (nm : ByteArray) (A : Option Addr) (c : Nat) (bs : List Int) (D : Option Addr) (dc : Nat) (dl : List Df), e = .returned (.tuple #[.agg #[.int .i64 id, .int .i64 ver, .int .i64 tm, .int .i64 ty, .int .i64 node, .int .i64 m, .string nm, .slice A bs.length c, .slice D dl.length dc], .int .i64 k0]) ∧ EvRd w' ⟨id, ver, tm, ty, node, m, nm, A, c, bs, D, dc, dl⟩ ∧ EvF.v ⟨id, ver, tm, ty, node, m, nm, A, c, bs, D, dc, dl⟩ = v0 ∧ (∀ z ∈ bs, 0 ≤ z ∧ z ≤ 255) ∧ Chg (fun _ => False) w w'
theorem shortR_rest {lack : Bool} {xs : List Int} : ∀ x ∈ (shortR lack xs).2.2, x ∈ xs := fun x hx => by
  unfold shortR at hx
  exact numR_rest.2 x (takeR_rest.2 x hx)
theorem readV_bs (xs : List Int) (h : ∀ x ∈ xs, 0 ≤ x ∧ x ≤ 255) : ∀ z ∈ (readV xs).bs, 0 ≤ z ∧ z ≤ 255 :=
  shortR_bytes (fun x hx => h x (numR_rest.2 x (numR_rest.2 x (numR_rest.2 x (numR_rest.2 x (numR_rest.2 x (numR_rest.2 x (shortR_rest x hx))))))))
theorem gave_as {w w' : World} {xs : List Int} {e : Ending} (hby : ∀ x ∈ xs, 0 ≤ x ∧ x ≤ 255) (h : ReadGave w xs (readV xs) e w') :
    ReadAs w (if ((readV xs).right = true ∧ (readV xs).lay = xs) then 0 else 5) (if ((readV xs).right = true ∧ (readV xs).lay = xs) then ⟨(readV xs).id, (readV xs).ver, (readV xs).tm, (readV xs).ty, (readV xs).node, (readV xs).m, strB (strOfNums (readV xs).nb), (readV xs).bs, (readV xs).dv⟩ else ⟨0, 0, 0, 0, 0, 0, [], [], []⟩) e w' := by
  obtain ⟨h1, hc⟩ := h
  rcases h1 with ⟨hr, hl, A', c', D, dc, dl, he, k1, k2, k3⟩ | ⟨hno, he⟩
  · rw [if_pos ⟨hr, hl⟩, if_pos ⟨hr, hl⟩]
    exact ⟨_, _, _, _, _, _, _, A', c', _, D, dc, dl, he, read_rdy hr k1 k2 k3, by simp only [EvF.v, k3], readV_bs xs hby, hc⟩
  · rw [if_neg hno, if_neg hno]
    exact ⟨0, 0, 0, 0, 0, 0, { data := #[] }, none, 0, [], none, 0, [], he, ⟨Nat.zero_le _, Nat.zero_le _, Rd.nil _ _, RdDf.nil _ _, Nat.zero_le _, (fun d hd => by cases hd)⟩, rfl, (fun z hz => by cases hz), hc⟩
theorem reads (Z : Option Addr) (cz : Nat) (zs : List Int) (hby : ∀ x ∈ zs, 0 ≤ x ∧ x ≤ 255) (hl : zs.length ≤ 140737488355328) (hcz : zs.length ≤ cz) : ∃ (k0 : Int) (v0 : EvV),
    (∀ w, Rd w Z (zs.map (Value.int .u8)) → Calls Tryd.prog 14 #[.slice Z zs.length cz] w (ReadAs w k0 v0)) ∧
    (∀ w, Rd w Z (zs.map (Value.int .u8)) → (∀ x, blk Z = some x → x < w.heap.size) → Calls Tryd.prog 15 #[.slice Z zs.length cz] w (ReadAs w k0 v0)) :=
  ⟨_, _, fun w h => (readG_any Z zs.length cz zs w h rfl hl hby).mono fun e w' hg => gave_as hby hg, fun w h hZ => (rreadG_any Z zs.length cz zs w h rfl hcz hZ hl hby).mono fun e w' hg => gave_as hby hg⟩
theorem xor_byt (a b : Int) : 0 ≤ bits .xor .u8 a b ∧ bits .xor .u8 a b ≤ 255 := by
  have h : ∀ n : Int, 0 ≤ IntKind.u8.wrap n ∧ IntKind.u8.wrap n ≤ 255 := fun n => by
    simp [IntKind.wrap, IntKind.bits, IntKind.signed]
    omega
  exact h _


set_option maxHeartbeats 8000000 in
set_option maxRecDepth 20000 in
theorem walk (w : World) (x : RawV) (hx : RawOk w x) (y : EvF) (hy : EvBig w y) (is : Bool) (a3 : Option Addr) (len3 cap3 : Nat) (h3 : Bys w a3 len3 cap3) (how : Int) (hhow : (Lit.int .i64 how).wf = true) (a5 : Option Addr) (len5 cap5 : Nat) (h5 : Ints w a5 len5 cap5) (by_ : Int) (hby_ : (Lit.int .u8 by_).wf = true) (hN : NamesAt w 0) :
    Calls Tryd.prog 3 #[x.val, y.val, .bool is, .slice a3 len3 cap3, .int .i64 how, .slice a5 len5 cap5, .int .u8 by_] w (SaysTrue w) := by
  obtain ⟨ts, htl, htc, htm, htr, htd, htw⟩ := h3
  have htb : ∀ z ∈ ts, 0 ≤ z ∧ z ≤ 255 := fun z hz => by have h := htw z hz; simp [Lit.wf, IntKind.min, IntKind.max, IntKind.signed, IntKind.bits] at h; omega
  obtain ⟨ats, hal, hac, ham, har, had, haw⟩ := h5
  have HTL := Lib.hid htl
  have HTD := Lib.hid htd
  have HTB := Lib.hid htb
  have HAL := Lib.hid hal
  have HAD := Lib.hid had
  have HX := Lib.hid hx
  have HY := Lib.hid hy
  have HN := Lib.hid hN
  clear htw htl htd htb haw hal had hx hy hN hby_ hhow
  unfold RawV.val EvF.val EvF.row
  obtain ⟨w1, hw1⟩ : ∃ w1, w1 = (w.alloc (.cells #[.int .i64 x.id, .int .i64 x.ver, .int .i64 x.tm, .int .i64 x.ty, .int .i64 x.node, .int .i64 x.m, .int .i64 x.name, .int .i64 x.defs, .int .i64 x.how, .slice x.A x.n x.c, .slice x.L x.ln x.lc] 25)).alloc (.cells #[.int .i64 y.id, .int .i64 y.ver, .int .i64 y.tm, .int .i64 y.ty, .int .i64 y.node, .int .i64 y.m, .string y.nm, .slice y.A y.bs.length y.c, .slice y.D y.dl.length y.dc] 28) := ⟨_, rfl⟩
  have bx : BoxAt w1 w.heap.size 25 #[.int .i64 x.id, .int .i64 x.ver, .int .i64 x.tm, .int .i64 x.ty, .int .i64 x.node, .int .i64 x.m, .int .i64 x.name, .int .i64 x.defs, .int .i64 x.how, .slice x.A x.n x.c, .slice x.L x.ln x.lc] := by rw [hw1]; exact (BoxAt.new w _ _).keep ((Chg.refl (fun _ => False) _).alloc _) (fun h => h)
  have bY : BoxAt w1 (w.heap.size + 1) 28 #[.int .i64 y.id, .int .i64 y.ver, .int .i64 y.tm, .int .i64 y.ty, .int .i64 y.node, .int .i64 y.m, .string y.nm, .slice y.A y.bs.length y.c, .slice y.D y.dl.length y.dc] := by rw [hw1]; exact box2 w _ _ _
  have hc1 : Chg (fun _ => False) w w1 := by rw [hw1]; exact ((Chg.refl _ _).alloc _).alloc _
  go_enter Tryd.func3, Tryd.ntmps3
  go_upto_region 1 with fail
  rw [← hw1]
  clear hw1
  go_cut [15] from 26 to 27 (fun e w' => ∃ (g : Nat) (f : EvF), e = .pointer (some ⟨g, 0, none⟩) ∧ BoxAt w' g 28 f.row ∧ EvBig w' f ∧ w1.heap.size ≤ g ∧ Chg (fun _ => False) w1 w')
  case first =>
    have q0 := bx.cell 0 rfl
    have q1 := bx.cell 1 rfl
    have q2 := bx.cell 2 rfl
    have q3 := bx.cell 3 rfl
    have q4 := bx.cell 4 rfl
    have q5 := bx.cell 5 rfl
    have q6 := bx.cell 6 rfl
    have q7 := bx.cell 7 rfl
    have q8 := bx.cell 8 rfl
    have q9 := bx.cell 9 rfl
    have q10 := bx.cell 10 rfl
    have hone := one_any x w1 (HX.out.still hc1) (HN.out.keep hc1 (fun h => h))
    unfold RawV.val at hone
    go_wp2_with (go_at_call 7; go_must (refine hone.mono ?_; rintro e w2 ⟨⟨id, ver, tm, ty, node, m, nm, A, c, bs, D, dc, dl⟩, he, hE, hc⟩; simp only [EvF.val, EvF.row] at he; subst he))
    go_meet
    exact ⟨w2.heap.size, ⟨id, ver, tm, ty, node, m, nm, A, c, bs, D, dc, dl⟩, rfl, BoxAt.new w2 _ _, (hE.keep ((Chg.refl (fun _ => False) _).alloc _) (fun x hx => hx.elim)).big, hc.size, hc.alloc _⟩
  case rest =>
    obtain ⟨ge, f, rfl, be, hE, hgw, hcA⟩ := hcut
    have bY2 := bY.keep hcA (fun h => h)
    have hc2 := hc1.trans hcA (fun x hx => hx.elim)
    have hgw2 : w.heap.size ≤ ge := Nat.le_trans hc1.size hgw
    have hYg : w.heap.size + 1 ≠ ge := by have h1 := bY.lt; omega
    clear bx bY hcA hc1
    go_upto_if 28 with fail
    go_cut [29] from 30 to 30 (fun _ w' => ∃ f : EvF, BoxAt w' ge 28 f.row ∧ EvBig w' f ∧ Chg (· = ge) wc w')
    case first =>
      cases is
      · go_wp2_with fail
        go_meet
        exact ⟨f, be, hE, Chg.refl _ _⟩
      · skip
        have q0 : wc.cell? ⟨w.heap.size + 1, 0, none⟩ = some (.int .i64 y.id) := bY2.cell 0 rfl
        have q1 : wc.cell? ⟨w.heap.size + 1, 1, none⟩ = some (.int .i64 y.ver) := bY2.cell 1 rfl
        have q2 : wc.cell? ⟨w.heap.size + 1, 2, none⟩ = some (.int .i64 y.tm) := bY2.cell 2 rfl
        have q3 : wc.cell? ⟨w.heap.size + 1, 3, none⟩ = some (.int .i64 y.ty) := bY2.cell 3 rfl
        have q4 : wc.cell? ⟨w.heap.size + 1, 4, none⟩ = some (.int .i64 y.node) := bY2.cell 4 rfl
        have q5 : wc.cell? ⟨w.heap.size + 1, 5, none⟩ = some (.int .i64 y.m) := bY2.cell 5 rfl
        have q6 : wc.cell? ⟨w.heap.size + 1, 6, none⟩ = some (.string y.nm) := bY2.cell 6 rfl
        have q7 : wc.cell? ⟨w.heap.size + 1, 7, none⟩ = some (.slice y.A y.bs.length y.c) := bY2.cell 7 rfl
        have q8 : wc.cell? ⟨w.heap.size + 1, 8, none⟩ = some (.slice y.D y.dl.length y.dc) := bY2.cell 8 rfl
        have t0 := be.cell 0 rfl
        have z0 := be.fz 0
        have t1 := be.cell 1 rfl
        have z1 := be.fz 1
        have t2 := be.cell 2 rfl
        have z2 := be.fz 2
        have t3 := be.cell 3 rfl
        have z3 := be.fz 3
        have t4 := be.cell 4 rfl
        have z4 := be.fz 4
        have t5 := be.cell 5 rfl
        have z5 := be.fz 5
        have t6 := be.cell 6 rfl
        have z6 := be.fz 6
        have t7 := be.cell 7 rfl
        have z7 := be.fz 7
        have t8 := be.cell 8 rfl
        have z8 := be.fz 8
        go_wp2_with fail
        go_meet
        have hcS := chg_set9 wc ge (.int .i64 y.id) (.int .i64 y.ver) (.int .i64 y.tm) (.int .i64 y.ty) (.int .i64 y.node) (.int .i64 y.m) (.string y.nm) (.slice y.A y.bs.length y.c) (.slice y.D y.dl.length y.dc)
        exact ⟨y, BoxAt.set9 be _ _ _ _ _ _ _ _ _, HY.out.past hc2 hcS (fun x hx => by rw [hx]; exact hgw2), hcS⟩
    case rest =>
      clear be hE
      obtain ⟨f, be, hE, hcS⟩ := hcut
      have hc := hc2.trans hcS (fun x hx => .inr (by rw [hx]; exact hgw2))
      clear bY2 hc2 hcS hYg hgw
      obtain ⟨xs, hxs⟩ : ∃ xs, xs = xsOf f := ⟨_, rfl⟩
      obtain ⟨k, hk⟩ : ∃ k, k = kOf f := ⟨_, rfl⟩
      have hxb : ∀ z ∈ xs, 0 ≤ z ∧ z ≤ 255 := by rw [hxs]; exact xsOf_byt f hE.byt
      have hxl : xs.length ≤ 1000 := by rw [hxs]; exact xsOf_len f
      have hxp : k = 0 → 1 ≤ xs.length := fun h => by rw [hxs]; exact xsOf_pos f (by rw [← hk]; exact h)
      have hL1 := fun w' h => lay_as f w' h
      have hL2 := fun w' h => rlay_as f w' h
      rw [← hxs, ← hk] at hL1 hL2
      have HXB := Lib.hid hxb
      have HXL := Lib.hid hxl
      have HXP := Lib.hid hxp
      have HL1 := Lib.hid hL1
      have HL2 := Lib.hid hL2
      clear hxs hk hxb hxl hxp hL1 hL2
      go_upto_region 4 with fail
      go_cut [16, 17] from 30 to 34 (fun a g w' => ∃ (A : Option Addr) (n c : Nat), a = .slice A n c ∧ g = .int .i64 k ∧ xs.length = n ∧ Rd w' A (xs.map (Value.int .u8)) ∧ Chg (fun _ => False) wc w')
      case first =>
        have q0 : wc.cell? ⟨ge, 0, none⟩ = some (.int .i64 f.id) := be.cell 0 rfl
        have q1 : wc.cell? ⟨ge, 1, none⟩ = some (.int .i64 f.ver) := be.cell 1 rfl
        have q2 : wc.cell? ⟨ge, 2, none⟩ = some (.int .i64 f.tm) := be.cell 2 rfl
        have q3 : wc.cell? ⟨ge, 3, none⟩ = some (.int .i64 f.ty) := be.cell 3 rfl
        have q4 : wc.cell? ⟨ge, 4, none⟩ = some (.int .i64 f.node) := be.cell 4 rfl
        have q5 : wc.cell? ⟨ge, 5, none⟩ = some (.int .i64 f.m) := be.cell 5 rfl
        have q6 : wc.cell? ⟨ge, 6, none⟩ = some (.string f.nm) := be.cell 6 rfl
        have q7 : wc.cell? ⟨ge, 7, none⟩ = some (.slice f.A f.bs.length f.c) := be.cell 7 rfl
        have q8 : wc.cell? ⟨ge, 8, none⟩ = some (.slice f.D f.dl.length f.dc) := be.cell 8 rfl
        go_wp2_with (go_at_call 8; go_must (refine (HL1.out wc hE).mono ?_; rintro e w3 ⟨A, n, c, rfl, hn, hnc, hrd, hc3⟩; have HNN := Lib.hid hn; clear hn))
        go_meet
        exact ⟨A, n, c, rfl, rfl, HNN.out, hrd, hc3⟩
      case rest =>
        obtain ⟨A, n, c, rfl, rfl, hn, hrA, hcA⟩ := hcut
        have be2 := be.keep hcA (fun h => h)
        have hE2 := hE.still hcA
        have hc2 := hc.trans hcA (fun x hx => hx.elim)
        have HNN := Lib.hid hn
        clear be hE hc hcA hn
        go_upto_region 5 with fail
        go_cut [18, 19] from 35 to 39 (fun a g w' => ∃ (B : Option Addr) (m d : Nat), a = .slice B m d ∧ g = .int .i64 k ∧ xs.length = m ∧ m ≤ d ∧ Rd w' B (xs.map (Value.int .u8)) ∧ Chg (fun _ => False) wc w')
        case first =>
          have q0 : wc.cell? ⟨ge, 0, none⟩ = some (.int .i64 f.id) := be2.cell 0 rfl
          have q1 : wc.cell? ⟨ge, 1, none⟩ = some (.int .i64 f.ver) := be2.cell 1 rfl
          have q2 : wc.cell? ⟨ge, 2, none⟩ = some (.int .i64 f.tm) := be2.cell 2 rfl
          have q3 : wc.cell? ⟨ge, 3, none⟩ = some (.int .i64 f.ty) := be2.cell 3 rfl
          have q4 : wc.cell? ⟨ge, 4, none⟩ = some (.int .i64 f.node) := be2.cell 4 rfl
          have q5 : wc.cell? ⟨ge, 5, none⟩ = some (.int .i64 f.m) := be2.cell 5 rfl
          have q6 : wc.cell? ⟨ge, 6, none⟩ = some (.string f.nm) := be2.cell 6 rfl
          have q7 : wc.cell? ⟨ge, 7, none⟩ = some (.slice f.A f.bs.length f.c) := be2.cell 7 rfl
          have q8 : wc.cell? ⟨ge, 8, none⟩ = some (.slice f.D f.dl.length f.dc) := be2.cell 8 rfl
          go_wp2_with (go_at_call 9; go_must (refine (HL2.out wc hE2).mono ?_; rintro e w3 ⟨B, m, d, rfl, hm, hmd, hrd, hc3⟩; have HMM := Lib.hid hm; clear hm))
          go_meet
          exact ⟨B, m, d, rfl, rfl, HMM.out, hmd, hrd, hc3⟩
        case rest =>
          obtain ⟨B, m, d, rfl, rfl, hm, hmd, hrB, hcA⟩ := hcut
          have be := be2.keep hcA (fun h => h)
          have hE := hE2.still hcA
          have hrA2 := hrA.keep hcA (fun _ _ h => h)
          have hc := hc2.trans hcA (fun x hx => hx.elim)
          have HMM := Lib.hid hm
          clear be2 hE2 hc2 hcA hrA hm
          obtain ⟨sa, hsa⟩ : ∃ sa, sa = strOfNums xs := ⟨_, rfl⟩
          have HSA := Lib.hid hsa
          clear hsa
          go_upto_region 6 with fail
          go_cut [56] from 40 to 55 (fun v w' => v = .bool false ∧ Chg (fun _ => False) wc w')
          case first =>
            have hSk : ∀ w', Chg (fun _ => False) wc w' → (w'.cell? ⟨ge, 0, none⟩ = some (.int .i64 f.id) ∧ w'.cell? ⟨ge, 1, none⟩ = some (.int .i64 f.ver) ∧ w'.cell? ⟨ge, 2, none⟩ = some (.int .i64 f.tm) ∧ w'.cell? ⟨ge, 3, none⟩ = some (.int .i64 f.ty) ∧ w'.cell? ⟨ge, 4, none⟩ = some (.int .i64 f.node) ∧ w'.cell? ⟨ge, 5, none⟩ = some (.int .i64 f.m) ∧ w'.cell? ⟨ge, 6, none⟩ = some (.string f.nm) ∧ w'.cell? ⟨ge, 7, none⟩ = some (.slice f.A f.bs.length f.c) ∧ w'.cell? ⟨ge, 8, none⟩ = some (.slice f.D f.dl.length f.dc) ∧ (convert 22 9 (.slice A n c)).run Tryd.prog w' = .ok (.string sa) w' ∧ (convert 22 9 (.slice B m d)).run Tryd.prog w' = .ok (.string sa) w') := fun w' hw => ⟨(be.keep hw (fun h => h)).cell 0 rfl, (be.keep hw (fun h => h)).cell 1 rfl, (be.keep hw (fun h => h)).cell 2 rfl, (be.keep hw (fun h => h)).cell 3 rfl, (be.keep hw (fun h => h)).cell 4 rfl, (be.keep hw (fun h => h)).cell 5 rfl, (be.keep hw (fun h => h)).cell 6 rfl, (be.keep hw (fun h => h)).cell 7 rfl, (be.keep hw (fun h => h)).cell 8 rfl, by rw [HSA.out]; exact run_convert_rd (P := Tryd.prog) w' 22 9 5 Tryd.underlying22 Tryd.underlying5 Tryd.underlying9 A n c xs HNN.out (hrA2.keep hw (fun _ _ h => h)), by rw [HSA.out]; exact run_convert_rd (P := Tryd.prog) w' 22 9 5 Tryd.underlying22 Tryd.underlying5 Tryd.underlying9 B m d xs HMM.out (hrB.keep hw (fun _ _ h => h))⟩
            have k0 : Chg (fun _ => False) wc wc.drew := (Chg.refl _ _).drew
            obtain ⟨r, hr⟩ : ∃ r, r = f.right := ⟨_, rfl⟩
            have hRa : ∀ w', Chg (fun _ => False) wc w' → Calls Tryd.prog 10 #[.agg #[.int .i64 f.id, .int .i64 f.ver, .int .i64 f.tm, .int .i64 f.ty, .int .i64 f.node, .int .i64 f.m, .string f.nm, .slice f.A f.bs.length f.c, .slice f.D f.dl.length f.dc]] w' fun e w'' => e = .returned (.bool r) ∧ Chg (fun _ => False) w' w'' := fun w' hw => by rw [hr]; exact right_f f w' (hE.still hw)
            have hRb : ∀ w', Chg (fun _ => False) wc w' → Calls Tryd.prog 11 #[.agg #[.int .i64 f.id, .int .i64 f.ver, .int .i64 f.tm, .int .i64 f.ty, .int .i64 f.node, .int .i64 f.m, .string f.nm, .slice f.A f.bs.length f.c, .slice f.D f.dl.length f.dc]] w' fun e w'' => e = .returned (.bool r) ∧ Chg (fun _ => False) w' w'' := fun w' hw => by rw [hr]; exact rright_f f w' (hE.still hw)
            clear hr be hE hrA2 hrB hc
            cases r
            all_goals
              go_region_held3 (fun w' => w'.cell? ⟨ge, 0, none⟩ = some (.int .i64 f.id) ∧ w'.cell? ⟨ge, 1, none⟩ = some (.int .i64 f.ver) ∧ w'.cell? ⟨ge, 2, none⟩ = some (.int .i64 f.tm) ∧ w'.cell? ⟨ge, 3, none⟩ = some (.int .i64 f.ty) ∧ w'.cell? ⟨ge, 4, none⟩ = some (.int .i64 f.node) ∧ w'.cell? ⟨ge, 5, none⟩ = some (.int .i64 f.m) ∧ w'.cell? ⟨ge, 6, none⟩ = some (.string f.nm) ∧ w'.cell? ⟨ge, 7, none⟩ = some (.slice f.A f.bs.length f.c) ∧ w'.cell? ⟨ge, 8, none⟩ = some (.slice f.D f.dl.length f.dc) ∧ (convert 22 9 (.slice A n c)).run Tryd.prog w' = .ok (.string sa) w' ∧ (convert 22 9 (.slice B m d)).run Tryd.prog w' = .ok (.string sa) w') (first | exact hSk _ k8 | exact hSk _ k7 | exact hSk _ k6 | exact hSk _ k5 | exact hSk _ k0) (first
                | (go_at_call 10; (with_reducible refine (hRa _ k6).mono ?_); rintro e w7 ⟨rfl, hc7⟩; have k7 := k6.trans hc7 (fun x hx => hx.elim))
                | (go_at_call 10; (with_reducible refine (hRa _ k0).mono ?_); rintro e w5 ⟨rfl, hc5⟩; have k5 := k0.trans hc5 (fun x hx => hx.elim))
                | (go_at_call 11; (with_reducible refine (hRb _ k5).mono ?_); rintro e w8 ⟨rfl, hc8⟩; have k8 := k5.trans hc8 (fun x hx => hx.elim))
                | (go_at_call 11; (with_reducible refine (hRb _ k0).mono ?_); rintro e w6 ⟨rfl, hc6⟩; have k6 := k0.trans hc6 (fun x hx => hx.elim)))
              all_goals
                go_wp2_with fail
                go_meet
                exact ⟨rfl, by first | exact k8 | exact k7 | exact k6 | exact k5 | exact k0⟩
          case rest =>
            obtain ⟨rfl, hcA⟩ := hcut
            have hc2 := hc.trans hcA (fun x hx => hx.elim)
            have hrB2 := hrB.keep hcA (fun _ _ h => h)
            clear be hE hrA2 hc hrB hcA HL1 HL2 HSA sa
            go_upto_region 8 with fail
            go_cut [20] from 57 to 60 (fun z w' => ZRel wc w' z)
            case first =>
              have hF := few_any a3 cap3 len3 len3 ts wc (HTD.out.keep hc2 (fun _ _ h => h)) HTL.out (by omega) htc (by omega)
              rw [List.take_of_length_le (by rw [HTL.out]; exact Nat.le_refl _)] at hF
              go_wp2_with (go_at_call 12; go_must (refine hF.mono ?_; rintro e w3 ⟨Z, cz, rfl, ho, hc3⟩))
              go_meet
              exact ⟨Z, ts, cz, rfl, Rd.of_own ho, HTB.out, own_cap ho, by rw [HTL.out]; omega, fun x hx => (own_lt ho hx).2, hc3⟩
            case rest =>
              obtain ⟨Z, zs, cz, rfl, hZr, hZb, hZc, hZl, hZo, hcA⟩ := hcut
              have hrB := hrB2.keep hcA (fun _ _ h => h)
              have hc := hc2.trans hcA (fun x hx => hx.elim)
              have HZB := Lib.hid hZb
              have HZO := Lib.hid hZo
              clear hrB2 hc2 hcA hZb hZo
              go_upto_region 9 with fail
              go_cut [67] from 61 to 66 (fun v w' => (∃ b : Bool, v = .bool b ∧ (b = true → k = 0)) ∧ w' = wc)
              case first =>
                by_cases hk0 : k = 0
                · subst hk0
                  go_wp2_with fail
                  all_goals
                    go_meet
                    exact ⟨⟨_, rfl, fun _ => (by first | rfl | trivial)⟩, rfl⟩
                · have f0 : (k == 0) = false := by simpa using hk0
                  have f1 : decide (k = 0) = false := by simpa using hk0
                  go_wp2_with fail
                  go_meet
                  exact ⟨⟨_, rfl, fun h => (by cases h)⟩, rfl⟩
              case rest =>
                obtain ⟨⟨b, rfl, hb⟩, rfl⟩ := hcut
                have HBK := Lib.hid hb
                clear hb
                go_upto_if 67 with fail
                go_cut [20, 21] from 68 to 104 (fun z _ w' => ZRel wc w' z)
                case first =>
                  cases b
                  · go_wp2_with fail
                    go_meet
                    exact ⟨Z, zs, cz, rfl, hZr, HZB.out, hZc, hZl, HZO.out, Chg.refl _ _⟩
                  · have hpos : 1 ≤ xs.length := HXP.out (HBK.out rfl)
                    have hF := few_any B d m m xs wc hrB HMM.out (by have := HMM.out; have := HXL.out; omega) hmd (by have := HMM.out; have := HXL.out; omega)
                    rw [List.take_of_length_le (by rw [HMM.out]; exact Nat.le_refl _)] at hF
                    go_upto_block 0 with (go_at_call 12; go_must (refine hF.mono ?_; rintro e w3 ⟨Z2, c2, rfl, ho, hc3⟩))
                    obtain ⟨gz, rfl⟩ : ∃ gz, Z2 = some ⟨gz, 0, none⟩ := by
                      rcases ho.2 with ⟨h0, h1⟩ | ⟨g9, cap9, cur9, hv9, _⟩
                      · omega
                      · injection hv9 with h9; exact ⟨g9, h9⟩
                    have hgz : wc.heap.size ≤ gz := (own_lt ho rfl).1
                    have hcap := own_cap ho
                    obtain ⟨M, hM⟩ : ∃ M, M = xs.length := ⟨_, rfl⟩
                    have hM1 : 1 ≤ M ∧ M ≤ 1000 := by have := HXL.out; omega
                    rw [← hM] at ho hcap ⊢
                    have HM := Lib.hid hM
                    obtain ⟨base, hbase⟩ : ∃ base, base = wc.heap.size := ⟨_, rfl⟩
                    rw [← hbase] at ho
                    have hw3 : Chg (fun _ => False) w w3 := hc.trans hc3 (fun x hx => hx.elim)
                    have hgzw : w.heap.size ≤ gz := Nat.le_trans hc.size hgz
                    clear hM hbase hF hpos hZr
                    go_cut [21] from 72 to 94 (fun _ w' => ∃ zs' : List Int, zs'.length = M ∧ (∀ x ∈ zs', 0 ≤ x ∧ x ≤ 255) ∧ w'.ownsRow base 5 1 (.slice (some ⟨gz, 0, none⟩) M c2) M (zs'.map (Value.int .u8)) ∧ Chg (· = gz) w3 w')
                    case first =>
                      go_wp2_with fail
                      go_loopw [21] (fun i w' => ∃ (j : Nat) (zs' : List Int), j ≤ 2 ∧ j ≤ len5 ∧ i = .int .i64 j ∧ zs'.length = M ∧ (∀ x ∈ zs', 0 ≤ x ∧ x ≤ 255) ∧ w'.ownsRow base 5 1 (.slice (some ⟨gz, 0, none⟩) M c2) M (zs'.map (Value.int .u8)) ∧ Chg (· = gz) w3 w') (fun i _ => 2 - (intOf i).toNat)
                      case atStart => exact ⟨0, xs, by omega, by omega, rfl, HM.out.symm, HXB.out, ho, Chg.refl _ _⟩
                      case round =>
                        clear ho
                        obtain ⟨j, zs', hj2, hj5, rfl, hzl, hzb, ho, hcj⟩ := hrel
                        have HZL := Lib.hid hzl
                        have HZZ := Lib.hid hzb
                        clear hzl hzb
                        by_cases hgo : j < len5 ∧ j < 2
                        · obtain ⟨g1, g2⟩ := hgo
                          have hwr : Chg (fun _ => False) w wr := hw3.trans hcj (fun x hx => .inr (by rw [hx]; exact hgzw))
                          obtain ⟨b5, o5, ha5, hq5⟩ := (HAD.out.keep hwr (fun _ _ h => h)).at_ (k := j) (by rw [List.length_map, HAL.out]; exact g1)
                          rw [List.getElem_map] at hq5
                          obtain ⟨v5, hv5⟩ : ∃ v, v = ats[j]'(by rw [HAL.out]; exact g1) := ⟨_, rfl⟩
                          rw [← hv5] at hq5
                          clear hv5
                          rw [ha5]
                          have j0 : (0 : Int) ≤ (j : Int) := by omega
                          have j1 : (j : Int) < (len5 : Int) := by omega
                          have j2 : (j : Int) < 2 := by omega
                          go_wp2_with (go_at_call 13; go_must (refine (pick_nat _ _ _ (by omega) (by omega)).mono ?_; rintro e w' ⟨r, hr, rfl, rfl⟩; have hrM : r < M := (by omega); have hrz : r < zs'.length := (by rw [HZL.out]; exact hrM); have i0 : (0 : Int) ≤ (r : Int) := (by omega); have c0 := ho.cellAt r (by omega); rw [List.getElem?_map, List.getElem?_eq_getElem hrz] at c0; obtain ⟨zv, hzv⟩ : ∃ zv, zv = zs'[r] := ⟨_, rfl⟩; rw [← hzv] at c0; clear hzv; simp only [Option.map_some] at c0; have z0 := ho.frozenAt r))
                          go_roundw
                          case rel => exact ⟨j + 1, zs'.set r (bits .xor .u8 zv by_), by omega, by omega, by go_num, by rw [List.length_set]; exact HZL.out, (fun x hx => by
                            rcases List.mem_or_eq_of_mem_set hx with hx | hx
                            · exact HZZ.out x hx
                            · rw [hx]; exact xor_byt _ _), by rw [List.map_set]; exact (ho.stored r _).1, hcj.trans (chg_put wr gz r _) (fun x hx => .inl hx)⟩
                          case measure => simp [intOf]; omega
                        · by_cases g1 : j < len5
                          · have j1 : (j : Int) < (len5 : Int) := by omega
                            have j2 : ¬ (j : Int) < 2 := by omega
                            go_wp2_with fail
                            go_meet
                            exact ⟨zs', HZL.out, HZZ.out, ho, hcj⟩
                          · have j1 : ¬ (j : Int) < (len5 : Int) := by omega
                            go_wp2_with fail
                            go_meet
                            exact ⟨zs', HZL.out, HZZ.out, ho, hcj⟩
                    case rest =>
                      clear ho
                      obtain ⟨zs', hzl, hzb, ho, hcj⟩ := hcut
                      have HZL := Lib.hid hzl
                      have HZZ := Lib.hid hzb
                      clear hzl hzb
                      have hfin := hc3.trans hcj (fun x hx => .inr (by rw [hx]; exact hgz))
                      go_upto_region 15 with fail
                      go_cut [97] from 95 to 96 (fun v w' => (∃ b : Bool, v = .bool b) ∧ w' = wc)
                      case first =>
                        go_wp2_with fail
                        go_meet
                        exact ⟨⟨_, rfl⟩, rfl⟩
                      case rest =>
                        obtain ⟨⟨b, rfl⟩, rfl⟩ := hcut
                        cases b
                        · go_wp2_with fail
                          go_meet
                          exact ⟨some ⟨gz, 0, none⟩, zs', c2, by rw [HZL.out], Rd.of_own ho, HZZ.out, by rw [HZL.out]; exact hcap, by rw [HZL.out]; omega, fun x hx => (own_lt ho hx).2, hfin⟩
                        · have hMc : (M : Int) ≤ (c2 : Int) := by omega
                          go_wp2_with (go_at_call 13; go_must (refine (pick_nat _ _ _ (by omega) (by omega)).mono ?_; rintro e w' ⟨r, hr, rfl, rfl⟩; have hrM : r < M := (by omega); have i0 : (0 : Int) ≤ (r : Int) := (by omega); have i1 : (r : Int) ≤ (c2 : Int) := (by omega)))
                          go_meet
                          have hlr : (zs'.take r).length = r := by rw [List.length_take, HZL.out]; omega
                          refine ⟨some ⟨gz, 0, none⟩, zs'.take r, c2, by rw [hlr], ?_, fun x hx => HZZ.out x (List.mem_of_mem_take hx), by rw [hlr]; omega, by rw [hlr]; omega, fun x hx => (own_lt ho hx).2, hfin⟩
                          have h1 := (Rd.of_own ho).take r
                          rwa [← List.map_take] at h1
                case rest =>
                  obtain ⟨Z2, zs2, cz2, rfl, hZr2, hZb, hZc, hZl, hZo, hcA⟩ := hcut
                  have hcX := hc.trans hcA (fun x hx => hx.elim)
                  obtain ⟨k0, v0, hA, hB⟩ := reads Z2 cz2 zs2 hZb hZl hZc
                  have HZO2 := Lib.hid hZo
                  have HRA := Lib.hid hA
                  have HRB := Lib.hid hB
                  clear hc hcA hrB hZr HZB HZO HBK hZb hZo hA hB
                  go_upto_region 17 with fail
                  go_cut [22, 23] from 105 to 109 (fun z kk w' => ∃ (g : Nat) (q : EvF), z = .pointer (some ⟨g, 0, none⟩) ∧ kk = .int .i64 k0 ∧ BoxAt w' g 28 q.row ∧ EvRd w' q ∧ q.v = v0 ∧ (∀ z ∈ q.bs, 0 ≤ z ∧ z ≤ 255) ∧ Chg (fun _ => False) wc w')
                  case first =>
                    have hrd := HRA.out wc hZr2
                    go_wp2_with (go_at_call 14; go_must (refine hrd.mono ?_; rintro e w6 ⟨id, ver, tm, ty, node, m1, nm, A1, c1, bs, D, dc, dl, rfl, h1, h2, h3, hc6⟩; have H2 := Lib.hid h2; clear h2))
                    go_meet
                    exact ⟨w6.heap.size, ⟨id, ver, tm, ty, node, m1, nm, A1, c1, bs, D, dc, dl⟩, rfl, rfl, BoxAt.new w6 _ _, h1.still ((Chg.refl _ _).alloc _), H2.out, h3, hc6.alloc _⟩
                  case rest =>
                    obtain ⟨gp, p, rfl, rfl, bp, hp, hpv, hpb, hcA⟩ := hcut
                    have hcY := hcX.trans hcA (fun x hx => hx.elim)
                    have hZr3 := hZr2.keep hcA (fun _ _ h => h)
                    have hsz := hcA.size
                    have hZo3 : ∀ x, blk Z2 = some x → x < wc.heap.size := fun x hx => Nat.lt_of_lt_of_le (HZO2.out x hx) hsz
                    have HPV := Lib.hid hpv
                    have HPB := Lib.hid hpb
                    clear hcX hcA hZr2 hsz hpv hpb
                    go_upto_region 18 with fail
                    go_cut [24, 25] from 110 to 114 (fun z kk w' => ∃ (g : Nat) (q : EvF), z = .pointer (some ⟨g, 0, none⟩) ∧ kk = .int .i64 k0 ∧ BoxAt w' g 28 q.row ∧ EvRd w' q ∧ q.v = v0 ∧ (∀ z ∈ q.bs, 0 ≤ z ∧ z ≤ 255) ∧ Chg (fun _ => False) wc w')
                    case first =>
                      have hrd := HRB.out wc hZr3 hZo3
                      go_wp2_with (go_at_call 15; go_must (refine hrd.mono ?_; rintro e w6 ⟨id, ver, tm, ty, node, m1, nm, A1, c1, bs, D, dc, dl, rfl, h1, h2, h3, hc6⟩; have H2 := Lib.hid h2; clear h2))
                      go_meet
                      exact ⟨w6.heap.size, ⟨id, ver, tm, ty, node, m1, nm, A1, c1, bs, D, dc, dl⟩, rfl, rfl, BoxAt.new w6 _ _, h1.still ((Chg.refl _ _).alloc _), H2.out, h3, hc6.alloc _⟩
                    case rest =>
                      obtain ⟨gq, q, rfl, rfl, bq, hq, hqv, hqb, hcA⟩ := hcut
                      have hcZ := hcY.trans hcA (fun x hx => hx.elim)
                      have bp2 := bp.keep hcA (fun h => h)
                      have hp2 := hp.still hcA
                      have HQV := Lib.hid hqv
                      have HQB := Lib.hid hqb
                      clear hcY hcA bp hp hZr3 hZo3 hqv hqb
                      go_wp2_with (first
                        | (go_at_call 17; go_must (refine hS.mono ?_; rintro e w8 ⟨⟨b, rfl, hb⟩, hc8⟩; have hbt : b = true := hb.2 (HPV.out.trans HQV.out.symm); subst hbt))
                        | (go_at_call 16; go_must (refine (known10_any _).mono ?_; rintro e w7 ⟨rfl, hc7⟩; have bp3 := bp2.keep hc7 (fun h => h); have bq3 := bq.keep hc7 (fun h => h); have hS := rsame_f p q w7 (hp2.still hc7) (hq.still hc7) HPB.out HQB.out; simp only [EvF.val, EvF.row] at hS; have s0 : w7.cell? ⟨gp, 0, none⟩ = some (.int .i64 p.id) := bp3.cell 0 rfl; have s1 : w7.cell? ⟨gp, 1, none⟩ = some (.int .i64 p.ver) := bp3.cell 1 rfl; have s2 : w7.cell? ⟨gp, 2, none⟩ = some (.int .i64 p.tm) := bp3.cell 2 rfl; have s3 : w7.cell? ⟨gp, 3, none⟩ = some (.int .i64 p.ty) := bp3.cell 3 rfl; have s4 : w7.cell? ⟨gp, 4, none⟩ = some (.int .i64 p.node) := bp3.cell 4 rfl; have s5 : w7.cell? ⟨gp, 5, none⟩ = some (.int .i64 p.m) := bp3.cell 5 rfl; have s6 : w7.cell? ⟨gp, 6, none⟩ = some (.string p.nm) := bp3.cell 6 rfl; have s7 : w7.cell? ⟨gp, 7, none⟩ = some (.slice p.A p.bs.length p.c) := bp3.cell 7 rfl; have s8 : w7.cell? ⟨gp, 8, none⟩ = some (.slice p.D p.dl.length p.dc) := bp3.cell 8 rfl; have u0 : w7.cell? ⟨gq, 0, none⟩ = some (.int .i64 q.id) := bq3.cell 0 rfl; have u1 : w7.cell? ⟨gq, 1, none⟩ = some (.int .i64 q.ver) := bq3.cell 1 rfl; have u2 : w7.cell? ⟨gq, 2, none⟩ = some (.int .i64 q.tm) := bq3.cell 2 rfl; have u3 : w7.cell? ⟨gq, 3, none⟩ = some (.int .i64 q.ty) := bq3.cell 3 rfl; have u4 : w7.cell? ⟨gq, 4, none⟩ = some (.int .i64 q.node) := bq3.cell 4 rfl; have u5 : w7.cell? ⟨gq, 5, none⟩ = some (.int .i64 q.m) := bq3.cell 5 rfl; have u6 : w7.cell? ⟨gq, 6, none⟩ = some (.string q.nm) := bq3.cell 6 rfl; have u7 : w7.cell? ⟨gq, 7, none⟩ = some (.slice q.A q.bs.length q.c) := bq3.cell 7 rfl; have u8 : w7.cell? ⟨gq, 8, none⟩ = some (.slice q.D q.dl.length q.dc) := bq3.cell 8 rfl)))
                      go_ret
                      exact ⟨rfl, (hcZ.trans hc7 (fun x hx => hx.elim)).trans hc8 (fun x hx => hx.elim)⟩
end Go.Proofs.YtngfimjbgopgjaaDoor.eventCodes
