/- Rd, OctKnown, in one text (merge.py). -/
import Derived.Test.YtngfimjbgopgjaaGreatDoorOct
import Derived.Lib.Bytes
import Derived.Laws.BytesArg
import Derived.Laws.BitsAllLaws
import Derived.Deep.DeepMust
import Derived.Deep.OwnRows
/- Contracts of octet.Reader (NewReader, Raw, get, U8, U16, U64, Short, Text, Lack, Left), of the reference's Reader and of cutoverhand.Few. -/
namespace Go.Proofs.YtngfimjbgopgjaaGreatDoor
open Go.RowKit
set_option linter.unusedVariables false

/-- A reader behind the pointer to block p: what is left are the bytes xs; has it lacked? -/
structure RAt (T : TypeId) (w : World) (p : Nat) (A : Option Addr) (c : Nat) (lack : Bool) (xs : List Int) : Prop where
  str : w.heap[p]? = some (.cells #[.slice A xs.length c, .bool lack] T (0, 0))
  rd : Rd w A (xs.map (Value.int .u8))
  cap : xs.length ≤ c
  far : Off (· = p) A
  len : xs.length ≤ 140737488355328
  byt : ∀ x ∈ xs, 0 ≤ x ∧ x ≤ 255
  old : ∀ x, blk A = some x → x < w.heap.size

section
variable {T : TypeId} {w w' : World} {p c : Nat} {A : Option Addr} {lack : Bool} {xs : List Int}
theorem RAt.cell0 (h : RAt T w p A c lack xs) : w.cell? ⟨p, 0, none⟩ = some (.slice A xs.length c) := cell_of_row w p 0 #[_, _] T (0, 0) h.str
theorem RAt.cell1 (h : RAt T w p A c lack xs) : w.cell? ⟨p, 1, none⟩ = some (.bool lack) := cell_of_row w p 1 #[_, _] T (0, 0) h.str
theorem RAt.frozen0 (h : RAt T w p A c lack xs) : w.frozen? ⟨p, 0, none⟩ = false := by simp [World.frozen?, h.str]
theorem RAt.frozen1 (h : RAt T w p A c lack xs) : w.frozen? ⟨p, 1, none⟩ = false := by simp [World.frozen?, h.str]
theorem RAt.lt (h : RAt T w p A c lack xs) : p < w.heap.size := (Array.getElem?_eq_some_iff.1 h.str).1
theorem RAt.foot (h : RAt T w p A c lack xs) : ∀ x, blk A = some x → x < w.heap.size := h.old
theorem RAt.keep {S : Nat → Prop} (h : RAt T w p A c lack xs) (hc : Chg S w w') (hp : ¬ S p) (hA : Off S A) : RAt T w' p A c lack xs :=
  ⟨hc.heap_some h.str hp, h.rd.keep hc hA, h.cap, h.far, h.len, h.byt, fun x hx => Nat.lt_of_lt_of_le (h.old x hx) hc.size⟩
end

/-- What Raw takes: the bytes, and what the reader is behind it. -/
def takeR (lack : Bool) (xs : List Int) (k : Int) : List Int × Bool × List Int :=
  if lack = true ∨ k < 0 ∨ (xs.length : Int) < k then ([], true, []) else (xs.take k.toNat, false, xs.drop k.toNat)
theorem takeR_bytes {lack : Bool} {xs : List Int} {k : Int} (h : ∀ x ∈ xs, 0 ≤ x ∧ x ≤ 255) : ∀ x ∈ (takeR lack xs k).1, 0 ≤ x ∧ x ≤ 255 := by
  unfold takeR
  split
  · intro x hx; cases hx
  · intro x hx; exact h x (List.mem_of_mem_take hx)
theorem takeR_len {lack : Bool} {xs : List Int} {k : Int} : ((takeR lack xs k).1.length : Int) ≤ max k 0 := by
  unfold takeR
  split
  · simp; omega
  · simp only [List.length_take]; omega

/-- The reader is now (lack, xs); only its struct has turned; its slice lies where it lay, or there is none. -/
def RTurned (T : TypeId) (w w' : World) (p : Nat) (A : Option Addr) (st : Bool × List Int) : Prop :=
  ∃ A' c', RAt T w' p A' c' st.1 st.2 ∧ (blk A' = blk A ∨ blk A' = none) ∧ Chg (· = p) w w'
/-- A slice that reads as the bytes xs, in new memory or none. -/
def NewB (B : Nat) (w : World) (xs : List Int) (A : Option Addr) : Prop := Rd w A (xs.map (Value.int .u8)) ∧ ∀ x, blk A = some x → B ≤ x
/-- Raw's answer. -/
def RGave (T : TypeId) (w : World) (p : Nat) (A : Option Addr) (r : List Int × Bool × List Int) (e : Ending) (w' : World) : Prop :=
  ∃ B d, e = .returned (.slice B r.1.length d) ∧ r.1.length ≤ d ∧ NewB w.heap.size w' r.1 B ∧ RTurned T w w' p A r.2
theorem RTurned.trans {T : TypeId} {w w1 w2 : World} {p : Nat} {A A1 : Option Addr} {st : Bool × List Int} (hb : blk A1 = blk A ∨ blk A1 = none) (hc : Chg (· = p) w w1) (h : RTurned T w1 w2 p A1 st) : RTurned T w w2 p A st := by
  obtain ⟨A2, c2, h2, hb2, hc2⟩ := h
  refine ⟨A2, c2, h2, ?_, hc.trans hc2 (fun x hx => .inl hx)⟩
  rcases hb2 with e | e
  · rw [e]; exact hb
  · exact .inr e

theorem two_setCell (w : World) (p : Nat) (a b a' b' : Value) (T : TypeId) (h : w.heap[p]? = some (.cells #[a, b] T (0, 0))) :
    ((w.setCell ⟨p, 0, none⟩ a').setCell ⟨p, 1, none⟩ b').heap[p]? = some (.cells #[a', b'] T (0, 0)) ∧ ((w.setCell ⟨p, 1, none⟩ b').setCell ⟨p, 0, none⟩ a').heap[p]? = some (.cells #[a', b'] T (0, 0)) ∧
    (w.setCell ⟨p, 0, none⟩ a').heap[p]? = some (.cells #[a', b] T (0, 0)) := by
  refine ⟨?_, ?_, ?_⟩ <;> simp [World.setCell, Array.getElem?_modify, h]
theorem chg_two (w : World) (p i j : Nat) (a b : Value) : Chg (· = p) w ((w.setCell ⟨p, i, none⟩ a).setCell ⟨p, j, none⟩ b) :=
  ((Chg.refl (· = p) w).setCell (p := ⟨p, i, none⟩) (.inl rfl) a).setCell (p := ⟨p, j, none⟩) (.inl rfl) b
theorem RAt.lacked {T : TypeId} {w : World} {p c : Nat} {A : Option Addr} {lack : Bool} {xs : List Int} (h : RAt T w p A c lack xs) :
    RGave T w p A ([], true, []) (.returned (.slice none 0 0)) ((w.setCell ⟨p, 0, none⟩ (.slice none 0 0)).setCell ⟨p, 1, none⟩ (.bool true)) ∧
    RGave T w p A ([], true, []) (.returned (.slice none 0 0)) ((w.setCell ⟨p, 1, none⟩ (.bool true)).setCell ⟨p, 0, none⟩ (.slice none 0 0)) := by
  obtain ⟨t1, t2, _⟩ := two_setCell w p _ _ (.slice none 0 0) (.bool true) T h.str
  have nb : ∀ w' : World, NewB w.heap.size w' [] none := fun w' => ⟨.inl rfl, fun x hx => by cases hx⟩
  exact ⟨⟨none, 0, rfl, Nat.le_refl _, nb _, none, 0, ⟨t1, .inl rfl, Nat.le_refl _, (fun x hx => by cases hx), Nat.zero_le _, (fun x hx => by cases hx), (fun x hx => by cases hx)⟩, .inr rfl, chg_two _ _ _ _ _ _⟩,
    ⟨none, 0, rfl, Nat.le_refl _, nb _, none, 0, ⟨t2, .inl rfl, Nat.le_refl _, (fun x hx => by cases hx), Nat.zero_le _, (fun x hx => by cases hx), (fun x hx => by cases hx)⟩, .inr rfl, chg_two _ _ _ _ _ _⟩⟩

theorem chg_made {w w2 : World} {o : Obj} (h : Chg (In (some ⟨w.heap.size, 0, none⟩)) (w.alloc o) w2) : Chg (fun _ => False) w w2 :=
  ((Chg.refl _ w).alloc o).trans h (by intro x hx; cases hx; exact .inr (Nat.le_refl _))

/-- Behind the store of 'r.b = r.b[k:]'. -/
theorem RAt.took {T : TypeId} {w w2 : World} {p c k c2 c3 : Nat} {A A2 A3 : Option Addr} {xs : List Int} (h : RAt T w p A c false xs) (hk : k ≤ xs.length)
    (hown : w2.ownsRow w.heap.size 5 1 (.slice A2 (0 + k) c2) (0 + k) ([] ++ (xs.take k).map (Value.int .u8)))
    (hcc : Chg (fun _ => False) w w2) (h3 : Rd w2 A3 ((xs.drop k).map (Value.int .u8))) (hb : blk A3 = blk A) (hc : xs.length - k ≤ c3) :
    RGave T w p A (xs.take k, false, xs.drop k) (.returned (.slice A2 k c2)) (w2.setCell ⟨p, 0, none⟩ (.slice A3 (xs.length - k) c3)) := by
  have hstr := hcc.heap_some h.str (fun h => h)
  have hfar : Off (· = p) A3 := fun x hx => h.far x (by rw [← hb]; exact hx)
  simp only [Nat.zero_add, List.nil_append] at hown
  have hlen : (xs.take k).length = k := by rw [List.length_take]; omega
  have hc1 : Chg (· = p) w2 (w2.setCell ⟨p, 0, none⟩ (.slice A3 (xs.length - k) c3)) := (Chg.refl (· = p) w2).setCell (p := ⟨p, 0, none⟩) (.inl rfl) _
  have hnew : ∀ x, blk A2 = some x → w.heap.size ≤ x := fun x hx => (own_lt hown hx).1
  have hkc : k ≤ c2 := by
    rcases hown.2 with ⟨e, e2⟩ | ⟨g, cap, cur, e, _, _, hle, _⟩
    · omega
    · injection e with _ _ e; omega
  refine ⟨A2, c2, by rw [hlen], by rw [hlen]; exact hkc, ⟨(Rd.of_own hown).keep hc1 (fun x hx e => ?_), hnew⟩, A3, c3, ⟨?_, h3.keep hc1 hfar, ?_, hfar, ?_, ?_, fun x hx => Nat.lt_of_lt_of_le (h.old x (by rw [← hb]; exact hx)) (Nat.le_trans hcc.size hc1.size)⟩, .inl hb, ?_⟩
  · have h1 := hnew x hx
    have h2 := h.lt
    subst e
    omega
  · rw [List.length_drop]
    exact (two_setCell w2 p _ _ _ (.bool false) T hstr).2.2
  · rw [List.length_drop]; exact hc
  · rw [List.length_drop]; have := h.len; omega
  · exact fun x hx => h.byt x (List.mem_of_mem_drop hx)
  · exact (hcc.mono (T := (· = p)) (fun x hx => hx.elim)).setCell (p := ⟨p, 0, none⟩) (.inl rfl) _
theorem Rd.tail {w : World} {A : Option Addr} {xs : List Value} (h : Rd w A xs) (k : Nat) : Rd w (Option.map (fun x => x.add k) A) (xs.drop k) := by
  rcases h with rfl | ⟨b, o, rfl, h⟩
  · exact .inl (by simp)
  · have := Rd.drop (b := b) (o := o) (.inr ⟨b, o, rfl, h⟩) k
    simpa [Addr.add_lit] using this
theorem blk_tail (A : Option Addr) (k : Nat) : blk (Option.map (fun x => x.add k) A) = blk A := by
  cases A with
  | none => rfl
  | some ad => simp only [Option.map_some, blk_some]; unfold Addr.add; split <;> rfl

/-- The number that bytes spell, the highest first, round at 2^64. -/
def getV (l : List Int) : Int := l.foldl (fun v c => IntKind.u64.wrap (v * 256) + c) 0
theorem getV_snoc (l : List Int) (c : Int) : getV (l ++ [c]) = IntKind.u64.wrap (getV l * 256) + c := by simp [getV]
theorem wrap256 (v : Int) : 0 ≤ IntKind.u64.wrap (v * 256) ∧ IntKind.u64.wrap (v * 256) ≤ 18446744073709551360 ∧ ∃ q : Int, IntKind.u64.wrap (v * 256) = q * 256 := by
  rw [IntKind.wrap_u64]
  refine ⟨by omega, by omega, (v * 256 % 18446744073709551616) / 256, by omega⟩
theorem getV_bd (l : List Int) (h : ∀ x ∈ l, 0 ≤ x ∧ x ≤ 255) : 0 ≤ getV l ∧ getV l ≤ 18446744073709551615 := by
  rcases List.eq_nil_or_concat l with rfl | ⟨l', c, rfl⟩
  · simp [getV]
  · rw [List.concat_eq_append, getV_snoc]
    have := wrap256 (getV l')
    have := h c (by simp)
    omega

/-- What a read of a number of n bytes leaves. -/
def NGave (T : TypeId) (w : World) (p : Nat) (A : Option Addr) (k : IntKind) (v : Int) (st : Bool × List Int) (e : Ending) (w' : World) : Prop :=
  e = .returned (.int k v) ∧ RTurned T w w' p A st

theorem or_low (v c : Int) (h0 : 0 ≤ c) (h1 : c ≤ 255) : bits .or .u64 (IntKind.u64.wrap (v * 256)) c = IntKind.u64.wrap (v * 256) + c := by
  obtain ⟨a, b, q, hq⟩ := wrap256 v
  rw [u64_or _ _ a (by omega) h0 (by omega), nat_join 8 _ _ (by omega) (by omega)]
  omega
theorem getV_take (l : List Int) (j : Nat) (h : j < l.length) : getV (l.take (j + 1)) = IntKind.u64.wrap (getV (l.take j) * 256) + l[j] := by
  rw [List.take_succ_eq_append_getElem h, getV_snoc]

/-- What a read of a number of k bytes answers, and what the reader is behind it. -/
def numR (lack : Bool) (xs : List Int) (k : Nat) : Int × Bool × List Int := (wrap64 (getV (takeR lack xs k).1), (takeR lack xs k).2)
/-- What Short takes. -/
def shortR (lack : Bool) (xs : List Int) : List Int × Bool × List Int := takeR (numR lack xs 2).2.1 (numR lack xs 2).2.2 (numR lack xs 2).1
theorem shortR_bytes {lack : Bool} {xs : List Int} (h : ∀ x ∈ xs, 0 ≤ x ∧ x ≤ 255) : ∀ x ∈ (shortR lack xs).1, 0 ≤ x ∧ x ≤ 255 := by
  refine takeR_bytes ?_
  intro x hx
  simp only [numR, takeR] at hx
  split at hx
  · cases hx
  · exact h x (List.mem_of_mem_drop hx)

/-! ### (*cutover/octet.Reader) -/
set_option maxHeartbeats 1000000 in
theorem take_lack (p : Nat) (A : Option Addr) (c : Nat) (xs : List Int) (k : Int) (w : World) (hR : RAt 104 w p A c true xs) :
    Calls Tryz.prog 70 #[.pointer (some ⟨p, 0, none⟩), .int .i64 k] w (RGave 104 w p A ([], true, [])) := by
  have h0 := hR.cell0
  have h1 := hR.cell1
  have f0 := hR.frozen0
  have f1 := hR.frozen1
  go_enter Tryz.func70, Tryz.ntmps70
  go_wp2_with fail
  go_ret
  first | exact hR.lacked.1 | exact hR.lacked.2
set_option maxHeartbeats 1000000 in
theorem take_neg (p : Nat) (A : Option Addr) (c : Nat) (xs : List Int) (k : Int) (w : World) (hR : RAt 104 w p A c false xs) (hk : k < 0) :
    Calls Tryz.prog 70 #[.pointer (some ⟨p, 0, none⟩), .int .i64 k] w (RGave 104 w p A ([], true, [])) := by
  have h0 := hR.cell0
  have h1 := hR.cell1
  have f0 := hR.frozen0
  have f1 := hR.frozen1
  go_enter Tryz.func70, Tryz.ntmps70
  go_wp2_with fail
  go_ret
  first | exact hR.lacked.1 | exact hR.lacked.2
set_option maxHeartbeats 1000000 in
theorem take_far (p : Nat) (A : Option Addr) (c : Nat) (xs : List Int) (k : Int) (w : World) (hR : RAt 104 w p A c false xs) (hk0 : 0 ≤ k) (hk : (xs.length : Int) < k) :
    Calls Tryz.prog 70 #[.pointer (some ⟨p, 0, none⟩), .int .i64 k] w (RGave 104 w p A ([], true, [])) := by
  have h0 := hR.cell0
  have h1 := hR.cell1
  have f0 := hR.frozen0
  have f1 := hR.frozen1
  go_enter Tryz.func70, Tryz.ntmps70
  go_wp2_with fail
  go_ret
  first | exact hR.lacked.1 | exact hR.lacked.2
set_option maxHeartbeats 1000000 in
set_option maxRecDepth 20000 in
theorem take_ok (p : Nat) (A : Option Addr) (c : Nat) (xs : List Int) (k : Nat) (w : World) (hR : RAt 104 w p A c false xs) (hk : k ≤ xs.length) :
    Calls Tryz.prog 70 #[.pointer (some ⟨p, 0, none⟩), .int .i64 k] w (RGave 104 w p A (xs.take k, false, xs.drop k)) := by
  obtain ⟨i0, hi, hz0, hz1, hz2⟩ := info_parts byteInfo
  have h0 := hR.cell0
  have h1 := hR.cell1
  have f0 := hR.frozen0
  have f1 := hR.frozen1
  have hlt := hR.lt
  have hcap := hR.cap
  have hlen := hR.len
  have hl1 : 0 + k ≤ maxLen := by simp only [maxLen]; omega
  have hl2 : (0 + k) * 1 ≤ 140737488355328 := by omega
  have hkc : (k : Int) ≤ (c : Int) := by omega
  have hmade : (w.alloc (.cells #[] 5)).ownsRow w.heap.size 5 1 (.slice (some ⟨w.heap.size, 0, none⟩) 0 0) 0 [] := World.ownsRow_made w #[] 0 (Nat.le_refl _) (by decide) rfl
  go_enter Tryz.func70, Tryz.ntmps70
  go_wp2_with (at_builtin; refine wpList_append_rd _ rfl (.tmp 29) (.tmp 35) 24 rfl w.heap.size 5 i0 _ 1 1 Tryz.underlying24 hi hz0 hz1 hz2 rfl (by decide) _ 0 0 [] rfl hmade A k c ((xs.take k).map (Value.int .u8)) rfl (by simp; omega) (by rw [List.map_take]; exact ((hR.rd.take k).alloc _)) (u8s_one _) hl1 hl2 (by simp) ?_; intro A2 c2 w2 hown2 hg2 hb2; have hcc := chg_made hg2; have h2 := hR.keep hcc (fun h => h) (fun _ _ h => h); have q0 := h2.cell0; have q1 := h2.frozen0)
  · go_ret
    exact hR.took hk hown2 hcc (.inl (by rw [List.drop_eq_nil_of_le (by omega)]; rfl)) rfl (by omega)
  · go_ret
    exact hR.took hk hown2 hcc (by rw [List.map_drop]; exact h2.rd.tail k) (blk_tail A k) (by omega)

theorem take_any (p : Nat) (A : Option Addr) (c : Nat) (lack : Bool) (xs : List Int) (k : Int) (w : World) (hR : RAt 104 w p A c lack xs) :
    Calls Tryz.prog 70 #[.pointer (some ⟨p, 0, none⟩), .int .i64 k] w (RGave 104 w p A (takeR lack xs k)) := by
  cases lack
  · by_cases h1 : k < 0
    · rw [takeR, if_pos (.inr (.inl h1))]
      exact take_neg p A c xs k w hR h1
    · by_cases h2 : (xs.length : Int) < k
      · rw [takeR, if_pos (.inr (.inr h2))]
        exact take_far p A c xs k w hR (by omega) h2
      · rw [takeR, if_neg (by simp; omega)]
        obtain ⟨n, rfl⟩ := Int.eq_ofNat_of_zero_le (by omega : 0 ≤ k)
        exact take_ok p A c xs n w hR (by omega)
  · rw [takeR, if_pos (.inl rfl)]
    exact take_lack p A c xs k w hR

set_option maxHeartbeats 2000000 in
set_option maxRecDepth 20000 in
theorem get_any (p : Nat) (A : Option Addr) (c : Nat) (lack : Bool) (xs : List Int) (k : Nat) (w : World) (hR : RAt 104 w p A c lack xs) (hk : k ≤ 8) :
    Calls Tryz.prog 69 #[.pointer (some ⟨p, 0, none⟩), .int .i64 k] w (NGave 104 w p A .u64 (getV (takeR lack xs k).1) (takeR lack xs k).2) := by
  have hbyt := takeR_bytes (lack := lack) (k := k) hR.byt
  have hlen := takeR_len (lack := lack) (xs := xs) (k := k)
  go_enter Tryz.func69, Tryz.ntmps69
  go_wp2_with fail
  refine (take_any p A c lack xs k w hR).mono ?_
  generalize takeR lack xs k = r at *
  obtain ⟨out, st⟩ := r
  rintro e w1 ⟨B, d, rfl, hd, hB, hst⟩
  simp only at hbyt hlen hd hB hst ⊢
  go_wp2_with fail
  go_loop [5, 12] (fun v i => ∃ j : Nat, j ≤ out.length ∧ i = .int .i64 j ∧ v = .int .u64 (getV (out.take j))) (fun _ i => out.length - (intOf i).toNat)
  case atStart => exact ⟨0, by omega, rfl, rfl⟩
  case round =>
    obtain ⟨j, hj, rfl, rfl⟩ := hrel
    by_cases hlt : j < out.length
    · obtain ⟨b, o, rfl, hc⟩ := hB.1.at_ (k := j) (by simpa using hlt)
      rw [List.getElem_map] at hc
      have hx := hbyt out[j] (List.getElem_mem hlt)
      have HT := Lib.hid (getV_take out j hlt)
      go_wp2_with fail
      go_round
      case rel => exact ⟨j + 1, by omega, by go_num, by rw [HT.out, or_low _ _ hx.1 hx.2]⟩
      case measure => simp [intOf]; omega
    · go_wp2_with fail
      go_ret
      exact ⟨by rw [List.take_of_length_le (by omega)]; rfl, hst⟩

theorem gu8_any (p : Nat) (A : Option Addr) (c : Nat) (lack : Bool) (xs : List Int) (w : World) (hR : RAt 104 w p A c lack xs) :
    Calls Tryz.prog 64 #[.pointer (some ⟨p, 0, none⟩)] w (NGave 104 w p A .i64 (numR lack xs 1).1 (numR lack xs 1).2) := by
  have HN : Hid (numR lack xs 1 = (wrap64 (getV (takeR lack xs ((1 : Nat) : Int)).1), (takeR lack xs ((1 : Nat) : Int)).2)) := Lib.hid rfl
  go_enter Tryz.func64, Tryz.ntmps64
  go_wp2_with fail
  refine (get_any p A c lack xs 1 w hR (by omega)).mono ?_
  rintro e w1 ⟨rfl, hst⟩
  generalize hv : getV (takeR lack xs ((1 : Nat) : Int)).1 = v
  have HV := Lib.hid hv
  clear hv
  go_wp2_with fail
  go_ret
  rw [HN.out, HV.out]
  exact ⟨rfl, hst⟩

theorem gu16_any (p : Nat) (A : Option Addr) (c : Nat) (lack : Bool) (xs : List Int) (w : World) (hR : RAt 104 w p A c lack xs) :
    Calls Tryz.prog 34 #[.pointer (some ⟨p, 0, none⟩)] w (NGave 104 w p A .i64 (numR lack xs 2).1 (numR lack xs 2).2) := by
  have HN : Hid (numR lack xs 2 = (wrap64 (getV (takeR lack xs ((2 : Nat) : Int)).1), (takeR lack xs ((2 : Nat) : Int)).2)) := Lib.hid rfl
  go_enter Tryz.func34, Tryz.ntmps34
  go_wp2_with fail
  refine (get_any p A c lack xs 2 w hR (by omega)).mono ?_
  rintro e w1 ⟨rfl, hst⟩
  generalize hv : getV (takeR lack xs ((2 : Nat) : Int)).1 = v
  have HV := Lib.hid hv
  clear hv
  go_wp2_with fail
  go_ret
  rw [HN.out, HV.out]
  exact ⟨rfl, hst⟩

theorem gu64_any (p : Nat) (A : Option Addr) (c : Nat) (lack : Bool) (xs : List Int) (w : World) (hR : RAt 104 w p A c lack xs) :
    Calls Tryz.prog 63 #[.pointer (some ⟨p, 0, none⟩)] w (NGave 104 w p A .i64 (numR lack xs 8).1 (numR lack xs 8).2) := by
  have HN : Hid (numR lack xs 8 = (wrap64 (getV (takeR lack xs ((8 : Nat) : Int)).1), (takeR lack xs ((8 : Nat) : Int)).2)) := Lib.hid rfl
  go_enter Tryz.func63, Tryz.ntmps63
  go_wp2_with fail
  refine (get_any p A c lack xs 8 w hR (by omega)).mono ?_
  rintro e w1 ⟨rfl, hst⟩
  generalize hv : getV (takeR lack xs ((8 : Nat) : Int)).1 = v
  have HV := Lib.hid hv
  clear hv
  go_wp2_with fail
  go_ret
  rw [HN.out, HV.out]
  exact ⟨rfl, hst⟩

theorem gshort_any (p : Nat) (A : Option Addr) (c : Nat) (lack : Bool) (xs : List Int) (w : World) (hR : RAt 104 w p A c lack xs) :
    Calls Tryz.prog 36 #[.pointer (some ⟨p, 0, none⟩)] w (RGave 104 w p A (shortR lack xs)) := by
  have HS : Hid (shortR lack xs = takeR (numR lack xs 2).2.1 (numR lack xs 2).2.2 (numR lack xs 2).1) := Lib.hid rfl
  go_enter Tryz.func36, Tryz.ntmps36
  go_wp2_with fail
  refine (gu16_any p A c lack xs w hR).mono ?_
  generalize hr : numR lack xs 2 = r at HS ⊢
  clear hr
  obtain ⟨v, st⟩ := r
  rintro e w1 ⟨rfl, A1, c1, h1, hb1, hc1⟩
  simp only at h1 hc1
  go_wp2_with fail
  refine (take_any p A1 c1 st.1 st.2 v w1 h1).mono ?_
  rintro e w2 ⟨B, d, rfl, hd, hB, hst⟩
  go_wp2_with fail
  go_ret
  rw [HS.out]
  exact ⟨B, d, rfl, hd, ⟨hB.1, fun x hx => Nat.le_trans hc1.size (hB.2 x hx)⟩, RTurned.trans hb1 hc1 hst⟩

/-- Text's answer. -/
theorem gtext_any (p : Nat) (A : Option Addr) (c : Nat) (lack : Bool) (xs : List Int) (w : World) (hR : RAt 104 w p A c lack xs) :
    Calls Tryz.prog 65 #[.pointer (some ⟨p, 0, none⟩)] w fun e w' => e = .returned (.string (strOfNums (shortR lack xs).1)) ∧ RTurned 104 w w' p A (shortR lack xs).2 := by
  go_enter Tryz.func65, Tryz.ntmps65
  go_wp2_with fail
  refine (gshort_any p A c lack xs w hR).mono ?_
  generalize hr : shortR lack xs = r
  have HR := Lib.hid hr
  clear hr
  obtain ⟨out, st⟩ := r
  rintro e w1 ⟨B, d, rfl, hd, hB, hst⟩
  simp only at hB hst
  have hcv := run_convert_rd (P := Tryz.prog) w1 24 9 5 Tryz.underlying24 Tryz.underlying5 Tryz.underlying9 B out.length d out rfl hB.1
  go_wp2_with fail
  go_ret
  rw [HR.out]
  exact ⟨rfl, hst⟩
/-! ### (*cutover/cutoverref1.Reader) -/
set_option maxHeartbeats 1000000 in
theorem rtake_lack (p : Nat) (A : Option Addr) (c : Nat) (xs : List Int) (k : Int) (w : World) (hR : RAt 67 w p A c true xs) :
    Calls Tryz.prog 72 #[.pointer (some ⟨p, 0, none⟩), .int .i64 k] w (RGave 67 w p A ([], true, [])) := by
  have h0 := hR.cell0
  have h1 := hR.cell1
  have f0 := hR.frozen0
  have f1 := hR.frozen1
  go_enter Tryz.func72, Tryz.ntmps72
  go_wp2_with fail
  go_ret
  first | exact hR.lacked.1 | exact hR.lacked.2
set_option maxHeartbeats 1000000 in
theorem rtake_neg (p : Nat) (A : Option Addr) (c : Nat) (xs : List Int) (k : Int) (w : World) (hR : RAt 67 w p A c false xs) (hk : k < 0) :
    Calls Tryz.prog 72 #[.pointer (some ⟨p, 0, none⟩), .int .i64 k] w (RGave 67 w p A ([], true, [])) := by
  have h0 := hR.cell0
  have h1 := hR.cell1
  have f0 := hR.frozen0
  have f1 := hR.frozen1
  go_enter Tryz.func72, Tryz.ntmps72
  go_wp2_with fail
  go_ret
  first | exact hR.lacked.1 | exact hR.lacked.2
set_option maxHeartbeats 1000000 in
theorem rtake_far (p : Nat) (A : Option Addr) (c : Nat) (xs : List Int) (k : Int) (w : World) (hR : RAt 67 w p A c false xs) (hk0 : 0 ≤ k) (hk : (xs.length : Int) < k) :
    Calls Tryz.prog 72 #[.pointer (some ⟨p, 0, none⟩), .int .i64 k] w (RGave 67 w p A ([], true, [])) := by
  have h0 := hR.cell0
  have h1 := hR.cell1
  have f0 := hR.frozen0
  have f1 := hR.frozen1
  go_enter Tryz.func72, Tryz.ntmps72
  go_wp2_with fail
  go_ret
  first | exact hR.lacked.1 | exact hR.lacked.2
set_option maxHeartbeats 1000000 in
set_option maxRecDepth 20000 in
theorem rtake_ok (p : Nat) (A : Option Addr) (c : Nat) (xs : List Int) (k : Nat) (w : World) (hR : RAt 67 w p A c false xs) (hk : k ≤ xs.length) :
    Calls Tryz.prog 72 #[.pointer (some ⟨p, 0, none⟩), .int .i64 k] w (RGave 67 w p A (xs.take k, false, xs.drop k)) := by
  obtain ⟨i0, hi, hz0, hz1, hz2⟩ := info_parts byteInfo
  have h0 := hR.cell0
  have h1 := hR.cell1
  have f0 := hR.frozen0
  have f1 := hR.frozen1
  have hlt := hR.lt
  have hcap := hR.cap
  have hlen := hR.len
  have hl1 : 0 + k ≤ maxLen := by simp only [maxLen]; omega
  have hl2 : (0 + k) * 1 ≤ 140737488355328 := by omega
  have hkc : (k : Int) ≤ (c : Int) := by omega
  have hmade : (w.alloc (.cells #[] 5)).ownsRow w.heap.size 5 1 (.slice (some ⟨w.heap.size, 0, none⟩) 0 0) 0 [] := World.ownsRow_made w #[] 0 (Nat.le_refl _) (by decide) rfl
  go_enter Tryz.func72, Tryz.ntmps72
  go_wp2_with (at_builtin; refine wpList_append_rd _ rfl (.tmp 29) (.tmp 35) 24 rfl w.heap.size 5 i0 _ 1 1 Tryz.underlying24 hi hz0 hz1 hz2 rfl (by decide) _ 0 0 [] rfl hmade A k c ((xs.take k).map (Value.int .u8)) rfl (by simp; omega) (by rw [List.map_take]; exact ((hR.rd.take k).alloc _)) (u8s_one _) hl1 hl2 (by simp) ?_; intro A2 c2 w2 hown2 hg2 hb2; have hcc := chg_made hg2; have h2 := hR.keep hcc (fun h => h) (fun _ _ h => h); have q0 := h2.cell0; have q1 := h2.frozen0)
  · go_ret
    exact hR.took hk hown2 hcc (.inl (by rw [List.drop_eq_nil_of_le (by omega)]; rfl)) rfl (by omega)
  · go_ret
    exact hR.took hk hown2 hcc (by rw [List.map_drop]; exact h2.rd.tail k) (blk_tail A k) (by omega)

theorem rtake_any (p : Nat) (A : Option Addr) (c : Nat) (lack : Bool) (xs : List Int) (k : Int) (w : World) (hR : RAt 67 w p A c lack xs) :
    Calls Tryz.prog 72 #[.pointer (some ⟨p, 0, none⟩), .int .i64 k] w (RGave 67 w p A (takeR lack xs k)) := by
  cases lack
  · by_cases h1 : k < 0
    · rw [takeR, if_pos (.inr (.inl h1))]
      exact rtake_neg p A c xs k w hR h1
    · by_cases h2 : (xs.length : Int) < k
      · rw [takeR, if_pos (.inr (.inr h2))]
        exact rtake_far p A c xs k w hR (by omega) h2
      · rw [takeR, if_neg (by simp; omega)]
        obtain ⟨n, rfl⟩ := Int.eq_ofNat_of_zero_le (by omega : 0 ≤ k)
        exact rtake_ok p A c xs n w hR (by omega)
  · rw [takeR, if_pos (.inl rfl)]
    exact rtake_lack p A c xs k w hR

set_option maxHeartbeats 2000000 in
set_option maxRecDepth 20000 in
theorem rget_any (p : Nat) (A : Option Addr) (c : Nat) (lack : Bool) (xs : List Int) (k : Nat) (w : World) (hR : RAt 67 w p A c lack xs) (hk : k ≤ 8) :
    Calls Tryz.prog 71 #[.pointer (some ⟨p, 0, none⟩), .int .i64 k] w (NGave 67 w p A .u64 (getV (takeR lack xs k).1) (takeR lack xs k).2) := by
  have hbyt := takeR_bytes (lack := lack) (k := k) hR.byt
  have hlen := takeR_len (lack := lack) (xs := xs) (k := k)
  go_enter Tryz.func71, Tryz.ntmps71
  go_wp2_with fail
  refine (rtake_any p A c lack xs k w hR).mono ?_
  generalize takeR lack xs k = r at *
  obtain ⟨out, st⟩ := r
  rintro e w1 ⟨B, d, rfl, hd, hB, hst⟩
  simp only at hbyt hlen hd hB hst ⊢
  go_wp2_with fail
  go_loop [6, 7] (fun v i => ∃ j : Nat, j ≤ out.length ∧ i = .int .i64 j ∧ v = .int .u64 (getV (out.take j))) (fun _ i => out.length - (intOf i).toNat)
  case atStart => exact ⟨0, by omega, rfl, rfl⟩
  case round =>
    obtain ⟨j, hj, rfl, rfl⟩ := hrel
    by_cases hlt : j < out.length
    · obtain ⟨b, o, rfl, hc⟩ := hB.1.at_ (k := j) (by simpa using hlt)
      rw [List.getElem_map] at hc
      have hx := hbyt out[j] (List.getElem_mem hlt)
      have hbd := wrap256 (getV (out.take j))
      obtain ⟨hb1, hb2, -⟩ := hbd
      obtain ⟨hx1, hx2⟩ := hx
      have HT := Lib.hid (getV_take out j hlt)
      go_wp2_with fail
      go_round
      case rel => exact ⟨j + 1, by omega, by go_num, by rw [HT.out]⟩
      case measure => simp [intOf]; omega
    · go_wp2_with fail
      go_ret
      exact ⟨by rw [List.take_of_length_le (by omega)]; rfl, hst⟩

theorem rgu8_any (p : Nat) (A : Option Addr) (c : Nat) (lack : Bool) (xs : List Int) (w : World) (hR : RAt 67 w p A c lack xs) :
    Calls Tryz.prog 74 #[.pointer (some ⟨p, 0, none⟩)] w (NGave 67 w p A .i64 (numR lack xs 1).1 (numR lack xs 1).2) := by
  have HN : Hid (numR lack xs 1 = (wrap64 (getV (takeR lack xs ((1 : Nat) : Int)).1), (takeR lack xs ((1 : Nat) : Int)).2)) := Lib.hid rfl
  go_enter Tryz.func74, Tryz.ntmps74
  go_wp2_with fail
  refine (rget_any p A c lack xs 1 w hR (by omega)).mono ?_
  rintro e w1 ⟨rfl, hst⟩
  generalize hv : getV (takeR lack xs ((1 : Nat) : Int)).1 = v
  have HV := Lib.hid hv
  clear hv
  go_wp2_with fail
  go_ret
  rw [HN.out, HV.out]
  exact ⟨rfl, hst⟩

theorem rgu16_any (p : Nat) (A : Option Addr) (c : Nat) (lack : Bool) (xs : List Int) (w : World) (hR : RAt 67 w p A c lack xs) :
    Calls Tryz.prog 38 #[.pointer (some ⟨p, 0, none⟩)] w (NGave 67 w p A .i64 (numR lack xs 2).1 (numR lack xs 2).2) := by
  have HN : Hid (numR lack xs 2 = (wrap64 (getV (takeR lack xs ((2 : Nat) : Int)).1), (takeR lack xs ((2 : Nat) : Int)).2)) := Lib.hid rfl
  go_enter Tryz.func38, Tryz.ntmps38
  go_wp2_with fail
  refine (rget_any p A c lack xs 2 w hR (by omega)).mono ?_
  rintro e w1 ⟨rfl, hst⟩
  generalize hv : getV (takeR lack xs ((2 : Nat) : Int)).1 = v
  have HV := Lib.hid hv
  clear hv
  go_wp2_with fail
  go_ret
  rw [HN.out, HV.out]
  exact ⟨rfl, hst⟩

theorem rgu64_any (p : Nat) (A : Option Addr) (c : Nat) (lack : Bool) (xs : List Int) (w : World) (hR : RAt 67 w p A c lack xs) :
    Calls Tryz.prog 73 #[.pointer (some ⟨p, 0, none⟩)] w (NGave 67 w p A .i64 (numR lack xs 8).1 (numR lack xs 8).2) := by
  have HN : Hid (numR lack xs 8 = (wrap64 (getV (takeR lack xs ((8 : Nat) : Int)).1), (takeR lack xs ((8 : Nat) : Int)).2)) := Lib.hid rfl
  go_enter Tryz.func73, Tryz.ntmps73
  go_wp2_with fail
  refine (rget_any p A c lack xs 8 w hR (by omega)).mono ?_
  rintro e w1 ⟨rfl, hst⟩
  generalize hv : getV (takeR lack xs ((8 : Nat) : Int)).1 = v
  have HV := Lib.hid hv
  clear hv
  go_wp2_with fail
  go_ret
  rw [HN.out, HV.out]
  exact ⟨rfl, hst⟩

theorem rgshort_any (p : Nat) (A : Option Addr) (c : Nat) (lack : Bool) (xs : List Int) (w : World) (hR : RAt 67 w p A c lack xs) :
    Calls Tryz.prog 39 #[.pointer (some ⟨p, 0, none⟩)] w (RGave 67 w p A (shortR lack xs)) := by
  have HS : Hid (shortR lack xs = takeR (numR lack xs 2).2.1 (numR lack xs 2).2.2 (numR lack xs 2).1) := Lib.hid rfl
  go_enter Tryz.func39, Tryz.ntmps39
  go_wp2_with fail
  refine (rgu16_any p A c lack xs w hR).mono ?_
  generalize hr : numR lack xs 2 = r at HS ⊢
  clear hr
  obtain ⟨v, st⟩ := r
  rintro e w1 ⟨rfl, A1, c1, h1, hb1, hc1⟩
  simp only at h1 hc1
  go_wp2_with fail
  refine (rtake_any p A1 c1 st.1 st.2 v w1 h1).mono ?_
  rintro e w2 ⟨B, d, rfl, hd, hB, hst⟩
  go_wp2_with fail
  go_ret
  rw [HS.out]
  exact ⟨B, d, rfl, hd, ⟨hB.1, fun x hx => Nat.le_trans hc1.size (hB.2 x hx)⟩, RTurned.trans hb1 hc1 hst⟩

/-- Text's answer. -/
theorem rgtext_any (p : Nat) (A : Option Addr) (c : Nat) (lack : Bool) (xs : List Int) (w : World) (hR : RAt 67 w p A c lack xs) :
    Calls Tryz.prog 75 #[.pointer (some ⟨p, 0, none⟩)] w fun e w' => e = .returned (.string (strOfNums (shortR lack xs).1)) ∧ RTurned 67 w w' p A (shortR lack xs).2 := by
  go_enter Tryz.func75, Tryz.ntmps75
  go_wp2_with fail
  refine (rgshort_any p A c lack xs w hR).mono ?_
  generalize hr : shortR lack xs = r
  have HR := Lib.hid hr
  clear hr
  obtain ⟨out, st⟩ := r
  rintro e w1 ⟨B, d, rfl, hd, hB, hst⟩
  simp only at hB hst
  have hcv := run_convert_rd (P := Tryz.prog) w1 24 9 5 Tryz.underlying24 Tryz.underlying5 Tryz.underlying9 B out.length d out rfl hB.1
  go_wp2_with fail
  go_ret
  rw [HR.out]
  exact ⟨rfl, hst⟩

/-! ### objects apart -/
theorem WAt.apart {T : TypeId} {w w' : World} {p c : Nat} {A : Option Addr} {bs : List Int} {S : Nat → Prop} (h : WAt T w p A c bs) (hc : Chg S w w') (ha : ∀ x, wFoot p A x → ¬ S x) : WAt T w' p A c bs :=
  h.keep hc (ha p (.inl rfl)) (fun x hx => ha x (.inr hx))
theorem RAt.apart {T : TypeId} {w w' : World} {p c : Nat} {A : Option Addr} {lack : Bool} {xs : List Int} {S : Nat → Prop} (h : RAt T w p A c lack xs) (hc : Chg S w w') (ha : ∀ x, wFoot p A x → ¬ S x) : RAt T w' p A c lack xs :=
  h.keep hc (ha p (.inl rfl)) (fun x hx => ha x (.inr hx))
/-- A writer's step. -/
theorem Wrote.step {T : TypeId} {w w' : World} {p : Nat} {A : Option Addr} {bs : List Int} (hw : Wrote T w w' p A bs) :
    ∃ A' c', WAt T w' p A' c' bs ∧ Chg (wFoot p A) w w' ∧ (∀ x, wFoot p A' x → wFoot p A x ∨ w.heap.size ≤ x) ∧ ∀ x, wFoot p A' x → x < w'.heap.size := by
  obtain ⟨A', c', h, hc, hb⟩ := hw
  refine ⟨A', c', h, hc, ?_, h.foot_lt⟩
  rintro x (rfl | hx)
  · exact .inl (.inl rfl)
  · rcases hb with e | ⟨g, e, hg⟩
    · exact .inl (.inr (by rw [← e]; exact hx))
    · rw [e] at hx; cases hx; exact .inr hg
/-- A reader's step: its blocks are as they were, or fewer. -/
theorem RTurned.step {T : TypeId} {w w' : World} {p : Nat} {A : Option Addr} {st : Bool × List Int} (hw : RTurned T w w' p A st) (hl : ∀ x, wFoot p A x → x < w.heap.size) :
    ∃ A' c', RAt T w' p A' c' st.1 st.2 ∧ Chg (wFoot p A) w w' ∧ (∀ x, wFoot p A' x → wFoot p A x ∨ w.heap.size ≤ x) ∧ ∀ x, wFoot p A' x → x < w'.heap.size := by
  obtain ⟨A', c', h, hb, hc⟩ := hw
  have hsub : ∀ x, wFoot p A' x → wFoot p A x := by
    rintro x (rfl | hx)
    · exact .inl rfl
    · rcases hb with e | e
      · exact .inr (by rw [← e]; exact hx)
      · rw [e] at hx; cases hx
  exact ⟨A', c', h, hc.mono (fun x hx => .inl (.inl hx)), fun x hx => .inl (hsub x hx), fun x hx => Nat.lt_of_lt_of_le (hl x (hsub x hx)) hc.size⟩


set_option maxHeartbeats 1000000 in
set_option maxRecDepth 20000 in
theorem newR_any (B : Option Addr) (d m : Nat) (xs : List Int) (w : World) (hx : Rd w B (xs.map (Value.int .u8))) (hm : xs.length = m) (hl : m ≤ 140737488355328) (hby : ∀ x ∈ xs, 0 ≤ x ∧ x ≤ 255) :
    Calls Tryz.prog 33 #[.slice B m d] w fun e w' => ∃ p A c, e = .returned (.pointer (some ⟨p, 0, none⟩)) ∧ RAt 104 w' p A c false xs ∧ (∀ x, blk A = some x → w.heap.size ≤ x) ∧ w.heap.size ≤ p ∧ Chg (fun _ => False) w w' := by
  obtain ⟨i0, hi, hz0, hz1, hz2⟩ := info_parts byteInfo
  have hl1 : 0 + m ≤ maxLen := by simp only [maxLen]; omega
  have hl2 : (0 + m) * 1 ≤ 140737488355328 := by omega
  have hmade : (w.alloc (.cells #[] 5)).ownsRow w.heap.size 5 1 (.slice (some ⟨w.heap.size, 0, none⟩) 0 0) 0 [] := World.ownsRow_made w #[] 0 (Nat.le_refl _) (by decide) rfl
  have HM := Lib.hid hm
  clear hm
  go_enter Tryz.func33, Tryz.ntmps33
  go_wp2_with (at_builtin; refine wpList_append_rd _ rfl (.tmp 3) (.tmp 4) 24 rfl w.heap.size 5 i0 _ 1 1 Tryz.underlying24 hi hz0 hz1 hz2 rfl (by decide) _ 0 0 [] rfl hmade B m d (xs.map (Value.int .u8)) rfl (by rw [List.length_map, HM.out]; omega) (hx.alloc _) (u8s_one _) hl1 hl2 (by simp) ?_; intro A2 c2 w2 hown2 hg2 hb2)
  go_ret
  simp only [Nat.zero_add, List.nil_append] at hown2
  have hcc := chg_made hg2
  have hml := HM.out
  have hnew : ∀ x, blk A2 = some x → w.heap.size ≤ x := fun x hx => (own_lt hown2 hx).1
  have hkc : m ≤ c2 := by
    rcases hown2.2 with ⟨e, e2⟩ | ⟨g, cap, cur, e, _, _, hle, _⟩
    · omega
    · injection e with _ _ e; omega
  have hlt2 : ∀ x, blk A2 = some x → x < w2.heap.size := fun x hx => (own_lt hown2 hx).2
  refine ⟨w2.heap.size, A2, c2, rfl, ⟨?_, (Rd.of_own hown2).alloc _, by omega, ?_, by omega, hby, fun x hx => by have := hlt2 x hx; simp; omega⟩, hnew, hcc.size, hcc.alloc _⟩
  · rw [hml]; exact heap_alloc_new w2 _
  · intro x hx e
    have := hlt2 x hx
    omega

theorem lack_any (p : Nat) (A : Option Addr) (c : Nat) (lack : Bool) (xs : List Int) (w : World) (hR : RAt 104 w p A c lack xs) :
    Calls Tryz.prog 35 #[.pointer (some ⟨p, 0, none⟩)] w fun e w' => e = .returned (.bool lack) ∧ w = w' := by
  have h0 := hR.cell1
  go_enter Tryz.func35, Tryz.ntmps35
  go_wp2_with fail
  go_ret
  exact ⟨rfl, rfl⟩
set_option maxHeartbeats 1000000 in
set_option maxRecDepth 20000 in
theorem few_any (B : Option Addr) (d m n : Nat) (xs : List Int) (w : World) (hx : Rd w B (xs.map (Value.int .u8))) (hm : xs.length = m) (hl : m ≤ 9223372036854775807) (hmd : m ≤ d) (hn : n ≤ 140737488355328) :
    Calls Tryz.prog 12 #[.slice B m d, .int .i64 n] w (Gives w (xs.take n)) := by
  obtain ⟨i0, hi, hz0, hz1, hz2⟩ := info_parts byteInfo
  have hmade : (w.alloc (.cells #[] 5)).ownsRow w.heap.size 5 1 (.slice (some ⟨w.heap.size, 0, none⟩) 0 0) 0 [] := World.ownsRow_made w #[] 0 (Nat.le_refl _) (by decide) rfl
  have HM := Lib.hid hm
  clear hm
  by_cases hmn : (m : Int) ≤ (n : Int)
  · have hl1 : 0 + m ≤ maxLen := by simp only [maxLen]; omega
    have hl2 : (0 + m) * 1 ≤ 140737488355328 := by omega
    go_enter Tryz.func12, Tryz.ntmps12
    go_wp2_with (at_builtin; refine wpList_append_rd _ rfl (.tmp 5) (.tmp 11) 24 rfl w.heap.size 5 i0 _ 1 1 Tryz.underlying24 hi hz0 hz1 hz2 rfl (by decide) _ 0 0 [] rfl hmade B m d ((xs.take n).map (Value.int .u8)) rfl (by rw [List.length_map, List.length_take, HM.out]; omega) (by rw [List.map_take]; exact (hx.take n).alloc _) (u8s_one _) hl1 hl2 (by simp) ?_; intro A2 c2 w2 hown2 hg2 hb2)
    go_ret
    simp only [Nat.zero_add, List.nil_append] at hown2
    have hlen : (xs.take n).length = m := by rw [List.length_take, HM.out]; omega
    exact ⟨A2, c2, by rw [hlen]; rfl, by rw [hlen]; exact hown2, chg_made hg2⟩
  · have hl1 : 0 + n ≤ maxLen := by simp only [maxLen]; omega
    have hl2 : (0 + n) * 1 ≤ 140737488355328 := by omega
    go_enter Tryz.func12, Tryz.ntmps12
    go_wp2_with (at_builtin; refine wpList_append_rd _ rfl (.tmp 5) (.tmp 11) 24 rfl w.heap.size 5 i0 _ 1 1 Tryz.underlying24 hi hz0 hz1 hz2 rfl (by decide) _ 0 0 [] rfl hmade B n d ((xs.take n).map (Value.int .u8)) rfl (by rw [List.length_map, List.length_take, HM.out]; omega) (by rw [List.map_take]; exact (hx.take n).alloc _) (u8s_one _) hl1 hl2 (by simp) ?_; intro A2 c2 w2 hown2 hg2 hb2)
    go_ret
    simp only [Nat.zero_add, List.nil_append] at hown2
    have hlen : (xs.take n).length = n := by rw [List.length_take, HM.out]; omega
    exact ⟨A2, c2, by rw [hlen]; rfl, by rw [hlen]; exact hown2, chg_made hg2⟩

/-- A reader made of a slice of the call's own. -/
theorem RAt.made {T : TypeId} {w : World} {base c : Nat} {A : Option Addr} {xs : List Int} (h : w.ownsRow base 5 1 (.slice A xs.length c) xs.length (xs.map (Value.int .u8))) (hl : xs.length ≤ 140737488355328) (hby : ∀ x ∈ xs, 0 ≤ x ∧ x ≤ 255) :
    RAt T (w.alloc (.cells #[.slice A xs.length c, .bool false] T)) w.heap.size A c false xs := by
  have hkc : xs.length ≤ c := by
    rcases h.2 with ⟨e, e2⟩ | ⟨g, cap, cur, e, _, _, hle, _⟩
    · omega
    · injection e with _ _ e; omega
  have hlt2 : ∀ x, blk A = some x → x < w.heap.size := fun x hx => (own_lt h hx).2
  refine ⟨heap_alloc_new w _, (Rd.of_own h).alloc _, hkc, ?_, hl, hby, fun x hx => by have := hlt2 x hx; simp; omega⟩
  intro x hx e
  have := hlt2 x hx
  omega
end Go.Proofs.YtngfimjbgopgjaaGreatDoor

/- The contract of cutoverlaw1.known: chapter 1's example; and of the closed statement OctetKnown. -/
namespace Go.Proofs.YtngfimjbgopgjaaGreatDoor
open Go.RowKit
set_option linter.unusedVariables false

/-- A call that answers true, and turns nothing that was there. -/
def SaysTrue (w : World) (e : Ending) (w' : World) : Prop := e = .returned (.bool true) ∧ Chg (fun _ => False) w w'

/-- A writer of the call's own. -/
theorem Wrote.own {T : TypeId} {w0 w w' : World} {p : Nat} {A : Option Addr} {bs : List Int} (hw : Wrote T w w' p A bs) (hc : Chg (fun _ => False) w0 w) (hp : w0.heap.size ≤ p) (hA : ∀ x, blk A = some x → w0.heap.size ≤ x) :
    ∃ A' c', WAt T w' p A' c' bs ∧ Chg (fun _ => False) w0 w' ∧ ∀ x, blk A' = some x → w0.heap.size ≤ x := by
  obtain ⟨A', c', h, hc2, hb⟩ := hw
  refine ⟨A', c', h, hc.trans hc2 ?_, ?_⟩
  · rintro x (rfl | hx)
    · exact .inr hp
    · exact .inr (hA x hx)
  · intro x hx
    rcases hb with e | ⟨g, e, hg⟩
    · exact hA x (by rw [← e]; exact hx)
    · rw [e] at hx; cases hx; exact Nat.le_trans hc.size hg

theorem kb : be (IntKind.u64.wrap 258) 2 = [1, 2] := by simp [be, IntKind.wrap_u64]
theorem ks : shortB (strB { data := #[97, 98] }) = [0, 2, 97, 98] := by decide
theorem kn : strOfNums [1, 2, 0, 2, 97, 98] = { data := #[1, 2, 0, 2, 97, 98] } := by decide

/-- The world behind 'make([]byte, n)'. -/
def madeW (w : World) (n : Nat) : World := w.alloc (.cells (madeCells #[.int .u8 0] n) 5)
theorem run_madeW (w : World) (n : Nat) (hn : n ≤ 65536) : (Instr.makeSlice 24 (.int .i64 (n : Int)) (.int .i64 (n : Int))).run Tryz.prog w = .ok (.slice (some ⟨w.heap.size, 0, none⟩) n n) (madeW w n) :=
  run_make_row' 24 5 (.int .u8 0) 1 Tryz.underlying24 byteInfo rfl .i64 .i64 n (by omega) (by omega) w
theorem Chg.ofMade (w : World) (n : Nat) (S : Nat → Prop) : Chg S w (madeW w n) := (Chg.refl _ w).alloc _
theorem Rd.ofMade (w : World) (n : Nat) : Rd (madeW w n) (some ⟨w.heap.size, 0, none⟩) ((List.replicate n (0 : Int)).map (Value.int .u8)) := by
  refine .inr ⟨w.heap.size, 0, rfl, fun j u hj => ?_⟩
  have h1 : (madeW w n).heap[w.heap.size]? = some (.cells (madeCells #[.int .u8 0] n) 5) := heap_alloc_new w _
  rw [cell_of_row _ _ _ _ _ _ h1]
  have hlt : j < n := by
    have := (List.getElem?_eq_some_iff.1 hj).1
    simpa using this
  rw [List.getElem?_map, List.getElem?_replicate, if_pos hlt] at hj
  rw [← hj]
  simp [madeCells, hlt, Nat.mod_one]

def knownR : List Int := [255, 255, 255, 255, 255, 255, 255, 254, 0, 1, 97, 9]
theorem kr1 : numR false knownR 8 = (-2, false, [0, 1, 97, 9]) := by decide +kernel
theorem kr2 : shortR false [0, 1, 97, 9] = ([97], false, [9]) := by decide +kernel
theorem kr3 : numR false [9] 2 = (0, true, []) := by decide +kernel
theorem kr4 : strOfNums [97] = { data := #[97] } := by decide
theorem knownR_byt : ∀ x ∈ knownR, 0 ≤ x ∧ x ≤ 255 := by decide

end Go.Proofs.YtngfimjbgopgjaaGreatDoor
