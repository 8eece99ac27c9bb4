/- Contracts of event.Lay, Read, Same at some event. -/
import Derived.Test.YtngfimjbgopgjaaDoorOne
import Derived.Test.YtngfimjbgopgjaaDoorEvBack
import Derived.Test.YtngfimjbgopgjaaDoorEvLayA
import Derived.Test.YtngfimjbgopgjaaDoorEvReadG
import Derived.Test.YtngfimjbgopgjaaDoorEvSameI
namespace Go.Proofs.YtngfimjbgopgjaaDoor
open Go.RowKit
set_option linter.unusedVariables false

theorem strs_back (s : ByteArray) : strOfNums (strB s) = s := by
  obtain ⟨d⟩ := s
  obtain ⟨l⟩ := d
  simp [strOfNums, strB, Function.comp_def]
theorem strB_byt (s : ByteArray) : ∀ z ∈ strB s, 0 ≤ z ∧ z ≤ 255 := by
  intro z hz
  simp only [strB, List.mem_map] at hz
  obtain ⟨b, _, rfl⟩ := hz
  have := b.toNat_lt
  omega
def EvF.right (f : EvF) : Bool := rightEB f.id f.ver f.tm f.ty f.node f.m f.nm f.bs.length (f.dl.map Df.v)
def EvF.lay (f : EvF) : List Int := evGB f.id f.ver f.tm f.ty f.node f.m f.nm f.bs (f.dl.map Df.v)
def EvF.v (f : EvF) : EvV := ⟨f.id, f.ver, f.tm, f.ty, f.node, f.m, strB f.nm, f.bs, f.dl.map Df.v⟩
theorem EvF.right_v (f : EvF) : f.v.right = f.right := by simp only [EvF.v, EvV.right, strs_back, EvF.right]
theorem EvF.lay_v (f : EvF) : f.v.lay = f.lay := by simp only [EvF.v, EvV.lay, strs_back, EvF.lay]
/-- It can be read, and is short. -/
structure EvRd (w : World) (f : EvF) : Prop where
  nm : f.nm.size ≤ 1048576
  bn : f.bs.length ≤ 1048576
  rd : Rd w f.A (f.bs.map (Value.int .u8))
  ds : RdDf w f.D f.dl
  dn : f.dl.length ≤ 1048576
  ns : ∀ d ∈ f.dl, d.ns.length ≤ 1048576
theorem EvOk.rdy {w : World} {g : Nat} {f : EvF} (h : EvOk w g f) : EvRd w f :=
  ⟨by have := h.nm; omega, by have := h.bn; omega, h.rd, h.ds, by have := h.dn; omega, fun d hd => by have := h.ns d hd; omega⟩
theorem EvRd.still {w w' : World} {f : EvF} (h : EvRd w f) (hc : Chg (fun _ => False) w w') : EvRd w' f :=
  ⟨h.nm, h.bn, h.rd.keep hc (fun _ _ h => h), h.ds.still hc, h.dn, h.ns⟩
theorem needsBy_byt : ∀ l : List Int, ∀ z ∈ needsBy l, 0 ≤ z ∧ z ≤ 255
  | [], z, hz => by cases hz
  | n :: l, z, hz => byt_app (be_byt _ _) (needsBy_byt l) z hz
theorem defsBy_byt : ∀ l : List (List Int × Int × Int), ∀ z ∈ defsBy l, 0 ≤ z ∧ z ≤ 255
  | [], z, hz => by cases hz
  | d :: l, z, hz => byt_app (byt_app (byt_app (byt_app (be_byt _ _) (be_byt _ _)) (be_byt _ _)) (needsBy_byt _)) (defsBy_byt l) z hz
theorem EvF.lay_byt (f : EvF) (h : ∀ z ∈ f.bs, 0 ≤ z ∧ z ≤ 255) : ∀ z ∈ f.lay, 0 ≤ z ∧ z ≤ 255 :=
  byt_app (byt_app (byt_app (byt_app (byt_app (byt_app (byt_app (byt_app (byt_app (byt_app (fun z hz => by cases hz) (be_byt _ _)) (be_byt _ _)) (be_byt _ _)) (be_byt _ _)) (be_byt _ _)) (be_byt _ _)) (shortB_byt (strB_byt _))) (shortB_byt h)) (be_byt _ _)) (defsBy_byt _)
theorem EvF.lay_len (f : EvF) (h : f.right = true) : f.lay.length ≤ 1000 := evGB_len h

/-- What Lay gives. -/
def LayGave (w : World) (f : EvF) (e : Ending) (w' : World) : Prop :=
  ((f.right = true ∧ ∃ A c, e = .returned (.tuple #[.slice A f.lay.length c, .int .i64 0]) ∧ w'.ownsRow w.heap.size 5 1 (.slice A f.lay.length c) f.lay.length (f.lay.map (Value.int .u8))) ∨ (f.right = false ∧ e = .returned (.tuple #[.slice none 0 0, .int .i64 1]))) ∧ Chg (fun _ => False) w w'
theorem lay_f (f : EvF) (w : World) (h : EvRd w f) : Calls Tryd.prog 8 #[f.val] w (LayGave w f) :=
  layG_any f.id f.ver f.tm f.ty f.node f.m f.nm f.A f.bs.length f.c f.bs f.D f.dl.length f.dc f.dl w h.rd rfl (by have := h.nm; omega) h.ds rfl (by have := h.dn; omega) (fun d hd => by have := h.ns d hd; omega)
theorem EvF.v_iff (f f' : EvF) : f.v = f'.v ↔ (f.id = f'.id ∧ f.ver = f'.ver ∧ f.tm = f'.tm ∧ f.ty = f'.ty ∧ f.node = f'.node ∧ f.m = f'.m ∧ f.nm = f'.nm ∧ f.bs = f'.bs ∧ f.dl.map Df.v = f'.dl.map Df.v) := by
  have hn : strB f.nm = strB f'.nm ↔ f.nm = f'.nm := ⟨fun h => by rw [← strs_back f.nm, h, strs_back], fun h => by rw [h]⟩
  simp only [EvF.v, EvV.mk.injEq, hn]
theorem same_f (f f' : EvF) (w : World) (h : EvRd w f) (h' : EvRd w f') : Calls Tryd.prog 18 #[f.val, f'.val] w fun e w' => (∃ b : Bool, e = .returned (.bool b) ∧ (b = true ↔ f.v = f'.v)) ∧ Chg (fun _ => False) w w' := by
  have h1 := sameG_any f.id f.ver f.tm f.ty f.node f.m f.nm f.A f.bs.length f.c f.bs f.D f.dl.length f.dc f.dl f'.id f'.ver f'.tm f'.ty f'.node f'.m f'.nm f'.A f'.bs.length f'.c f'.bs f'.D f'.dl.length f'.dc f'.dl w h.rd h'.rd rfl rfl h.bn h'.bn h.ds h'.ds rfl rfl h.dn h'.dn h.ns h'.ns
  refine h1.mono fun e w' ⟨he, hc⟩ => ⟨⟨_, he, ?_⟩, hc⟩
  simp only [Bool.and_eq_true, decide_eq_true_eq, EvF.v_iff]
/-- What Read gives of bytes that are an event's, and of those that are none. -/
def ReadOf (w : World) (xs : List Int) (e : Ending) (w' : World) : Prop :=
  ((∃ z : EvF, e = .returned (.tuple #[z.val, .int .i64 0]) ∧ EvRd w' z ∧ z.right = true ∧ z.lay = xs) ∨ e = .returned (.tuple #[.agg #[.int .i64 0, .int .i64 0, .int .i64 0, .int .i64 0, .int .i64 0, .int .i64 0, .string { data := #[] }, .slice none 0 0, .slice none 0 0], .int .i64 5])) ∧ Chg (fun _ => False) w w'
theorem read_rdy {w' : World} {v : EvV} {A : Option Addr} {c : Nat} {D : Option Addr} {dc : Nat} {dl : List Df} (hr : v.right = true) (h1 : Rd w' A (v.bs.map (Value.int .u8))) (h2 : RdDf w' D dl) (h3 : dl.map Df.v = v.dv) : EvRd w' ⟨v.id, v.ver, v.tm, v.ty, v.node, v.m, strOfNums v.nb, A, c, v.bs, D, dc, dl⟩ := by
  obtain ⟨a1, a2, a3, a4, a5, a6, a7, a8, a9, a10⟩ := right_parts hr
  rw [← h3, List.length_map] at a9
  refine ⟨by simp only [strOfNums_size]; omega, by simp only; omega, h1, h2, by simp only; omega, fun d hd => ?_⟩
  have := (a10 d.v (by rw [← h3]; exact List.mem_map_of_mem hd)).2.2.1
  have : d.ns.length ≤ 255 := this
  omega
theorem read_any (B : Option Addr) (n d : Nat) (xs : List Int) (w : World) (h : Rd w B (xs.map (Value.int .u8))) (hn : xs.length = n) (hn2 : n ≤ 140737488355328) (hby : ∀ x ∈ xs, 0 ≤ x ∧ x ≤ 255) :
    Calls Tryd.prog 14 #[.slice B n d] w (ReadOf w xs) := by
  refine (readG_any B n d xs w h hn hn2 hby).mono fun e w' ⟨h1, hc⟩ => ⟨?_, hc⟩
  rcases h1 with ⟨hr, hl, A', c', D, dc, dl, he, k1, k2, k3⟩ | ⟨_, he⟩
  · refine .inl ⟨⟨(readV xs).id, (readV xs).ver, (readV xs).tm, (readV xs).ty, (readV xs).node, (readV xs).m, strOfNums (readV xs).nb, A', c', (readV xs).bs, D, dc, dl⟩, he, read_rdy hr k1 k2 k3, ?_, ?_⟩
    · rw [EvV.right] at hr; simp only [EvF.right, k3]; exact hr
    · rw [EvV.lay] at hl; simp only [EvF.lay, k3]; exact hl
  · exact .inr he
theorem read_lay (f : EvF) (B : Option Addr) (n d : Nat) (w : World) (hr : f.right = true) (hb : ∀ z ∈ f.bs, 0 ≤ z ∧ z ≤ 255) (h : Rd w B (f.lay.map (Value.int .u8))) (hn : f.lay.length = n) :
    Calls Tryd.prog 14 #[.slice B n d] w fun e w' => (∃ z : EvF, e = .returned (.tuple #[z.val, .int .i64 0]) ∧ EvRd w' z ∧ z.v = f.v) ∧ Chg (fun _ => False) w w' := by
  have hv : readV f.lay = f.v := by rw [← f.lay_v]; exact readV_lay (by rw [f.right_v]; exact hr) (strB_byt _)
  have h0 := readG_any B n d f.lay w h hn (by have := f.lay_len hr; omega) (f.lay_byt hb)
  rw [hv] at h0
  refine h0.mono fun e w' ⟨h1, hc⟩ => ⟨?_, hc⟩
  rcases h1 with ⟨h2, hl, A', c', D, dc, dl, he, k1, k2, k3⟩ | ⟨h2, he⟩
  · refine ⟨⟨f.v.id, f.v.ver, f.v.tm, f.v.ty, f.v.node, f.v.m, strOfNums f.v.nb, A', c', f.v.bs, D, dc, dl⟩, he, read_rdy h2 k1 k2 k3, ?_⟩
    simp only [EvF.v, k3, strs_back]
  · exact absurd ⟨by rw [f.right_v]; exact hr, f.lay_v⟩ h2
/-- Two right events are laid alike where they are the same. -/
theorem lay_iff (f u : EvF) (h : f.right = true) (h' : u.right = true) (hb : ∀ z ∈ f.bs, 0 ≤ z ∧ z ≤ 255) (hb' : ∀ z ∈ u.bs, 0 ≤ z ∧ z ≤ 255) : strOfNums f.lay = strOfNums u.lay ↔ f.v = u.v := by
  constructor
  · intro e
    have e2 : f.lay = u.lay := by rw [← strB_back _ (f.lay_byt hb), e, strB_back _ (u.lay_byt hb')]
    refine lay_inj (by rw [f.right_v]; exact h) (strB_byt _) (by rw [u.right_v]; exact h') (strB_byt _) ?_
    rw [f.lay_v, u.lay_v, e2]
  · intro e
    rw [← f.lay_v, ← u.lay_v, e]
end Go.Proofs.YtngfimjbgopgjaaDoor
