/- Contracts of octet.Writer (put, U8, U16, U64, Raw, Short, Text, Bytes) and of the reference's Writer. -/
import Derived.Test.YtngfimjbgopgjaaGreatDoorChecked
import Derived.Test.YtngfimjbgopgjaaGreatDoorMemArgs
import Derived.WalkLawsBesides
import Derived.Handy
import Derived.Outline
import Derived.Deep.RegionLaw
import Derived.Deep.DeepCutAuto
import Derived.Deep.LoopGhost
import Derived.Lib.ConvBytes
import Derived.Laws.BytesArg
namespace Go.Proofs.YtngfimjbgopgjaaGreatDoor
open Go.RowKit
set_option linter.unusedVariables false

theorem byteInfo : (Tryz.prog.info? 5).map (fun i => (i.zero, i.size, i.bytes)) = some (some (.int .u8 0), 1, 1) := by kernel_rfl

/-- The n lowest bytes of x, the highest first. -/
def be (x : Int) : Nat → List Int
  | 0 => []
  | n + 1 => (x / 256 ^ n) % 256 :: be x n
theorem be_length (x : Int) (n : Nat) : (be x n).length = n := by induction n <;> simp_all [be]

/-- A writer behind the pointer to block p: its one cell holds a slice (address A, capacity c), which owns the bytes bs. -/
structure WAt (T : TypeId) (w : World) (p : Nat) (A : Option Addr) (c : Nat) (bs : List Int) : Prop where
  str : w.heap[p]? = some (.cells #[.slice A bs.length c] T (0, 0))
  own : w.ownsRow 0 5 1 (.slice A bs.length c) bs.length (bs.map (Value.int .u8))
  far : Off (· = p) A

/-- The writer's blocks. -/
def wFoot (p : Nat) (A : Option Addr) : Nat → Prop := fun k => k = p ∨ blk A = some k

/-- The writer holds bs now; only its own blocks have turned, and its slice lies where it lay or in a new block. -/
def Wrote (T : TypeId) (w w' : World) (p : Nat) (A : Option Addr) (bs : List Int) : Prop :=
  ∃ A' c', WAt T w' p A' c' bs ∧ Chg (wFoot p A) w w' ∧ (blk A' = blk A ∨ ∃ g, blk A' = some g ∧ w.heap.size ≤ g)

section
variable {T : TypeId} {w w' : World} {p c : Nat} {A : Option Addr} {bs : List Int}
theorem WAt.cell (h : WAt T w p A c bs) : w.cell? ⟨p, 0, none⟩ = some (.slice A bs.length c) := cell_of_row w p 0 #[_] T (0, 0) h.str
theorem WAt.frozen (h : WAt T w p A c bs) : w.frozen? ⟨p, 0, none⟩ = false := by simp [World.frozen?, h.str]
theorem WAt.lt (h : WAt T w p A c bs) : p < w.heap.size := (Array.getElem?_eq_some_iff.1 h.str).1
theorem WAt.rd (h : WAt T w p A c bs) : Rd w A (bs.map (Value.int .u8)) := Rd.of_own h.own
theorem WAt.keep {S : Nat → Prop} (h : WAt T w p A c bs) (hc : Chg S w w') (hp : ¬ S p) (hA : Off S A) : WAt T w' p A c bs :=
  ⟨hc.heap_some h.str hp, hc.ownS h.own hA, h.far⟩
theorem WAt.wrote (h : WAt T w p A c bs) : Wrote T w w p A bs := ⟨A, c, h, Chg.refl _ _, .inl rfl⟩
theorem Wrote.trans {w2 : World} {bs2 : List Int} {A1 : Option Addr} (hc : Chg (wFoot p A) w w') (ha : blk A1 = blk A ∨ ∃ g, blk A1 = some g ∧ w.heap.size ≤ g) (h2 : Wrote T w' w2 p A1 bs2) : Wrote T w w2 p A bs2 := by
  obtain ⟨A2, c2, h, hc2, ha2⟩ := h2
  refine ⟨A2, c2, h, hc.trans hc2 ?_, ?_⟩
  · rintro x (rfl | hx)
    · exact .inl (.inl rfl)
    · rcases ha with e | ⟨g, e, hg⟩
      · exact .inl (.inr (by rw [← e]; exact hx))
      · rw [e] at hx; cases hx; exact .inr hg
  · rcases ha2 with e2 | ⟨g, e2, hg⟩
    · rw [e2]; exact ha
    · exact .inr ⟨g, e2, Nat.le_trans hc.size hg⟩
/-- What the store behind an append leaves: w1 is the world with the new slice's blocks, the pointer's cell is set last. -/
theorem WAt.appended {w1 : World} {news : List Int} {A' : Option Addr} {c' m : Nat} (h : WAt T w p A c bs) (hm : news.length = m)
    (ho : w1.ownsRow 0 5 1 (.slice A' (bs.length + m) c') (bs.length + m) (bs.map (Value.int .u8) ++ news.map (Value.int .u8)))
    (hc : Chg (In A) w w1) (hb : blk A' = blk A ∨ ∃ g, blk A' = some g ∧ w.heap.size ≤ g) :
    w1.cell? ⟨p, 0, none⟩ = some (.slice A bs.length c) ∧ w1.frozen? ⟨p, 0, none⟩ = false ∧
    Wrote T w (w1.setCell ⟨p, 0, none⟩ (.slice A' (bs.length + m) c')) p A (bs ++ news) := by
  subst hm
  have hp : ¬ In A p := fun e => h.far p e rfl
  have hstr := hc.heap_some h.str hp
  have hfar : Off (· = p) A' := by
    intro x hx e
    subst e
    rcases hb with e | ⟨g, e, hg⟩
    · exact h.far x (by rw [← e]; exact hx) rfl
    · rw [e] at hx; cases hx; have := h.lt; omega
  refine ⟨cell_of_row w1 p 0 #[_] T (0, 0) hstr, by simp [World.frozen?, hstr], A', c', ⟨?_, ?_, hfar⟩, ?_, hb⟩
  · simp [World.setCell, Array.getElem?_modify, hstr]
  · rw [List.length_append, List.map_append]
    exact Chg.ownS (S := (· = p)) ((Chg.refl (· = p) w1).setCell (p := ⟨p, 0, none⟩) (.inl rfl) _) ho hfar
  · exact (hc.mono (fun x hx => .inl (.inr hx))).setCell (.inl (.inl rfl)) _
end

def PutRel (T : TypeId) (n : Nat) (x : Int) (w : World) (p : Nat) (A : Option Addr) (bs : List Int) (i : Value) (wr : World) : Prop :=
  ∃ (j : Nat) (done : List Int), j ≤ n ∧ i = .int .i64 ((j : Int) - 1) ∧ done ++ be x j = be x n ∧ Wrote T w wr p A (bs ++ done)

theorem u8_shift (x : Int) (j : Nat) (hx : 0 ≤ x) : IntKind.u8.wrap (x / 2 ^ (8 * (j : Int)).toNat) = (x / 256 ^ j) % 256 := by
  have e : (8 * (j : Int)).toNat = 8 * j := by omega
  rw [e, Int.pow_mul, IntKind.wrap_u8]
  rfl

/-- A string's bytes. -/
def strB (s : ByteArray) : List Int := s.data.toList.map fun b => (b.toNat : Int)
theorem strB_length (s : ByteArray) : (strB s).length = s.size := by rw [strB, List.length_map]; rfl
theorem Rd.ofString (w : World) (s : ByteArray) : Rd (Lib.bytesWorld w 5 s) (some ⟨w.heap.size, 0, none⟩) ((strB s).map (Value.int .u8)) := by
  refine .inr ⟨w.heap.size, 0, rfl, fun j u hj => ?_⟩
  have hlt : j < s.size := by
    have := (List.getElem?_eq_some_iff.1 hj).1
    simpa [strB_length] using this
  rw [Nat.zero_add, Lib.bytesWorld_cell w 5 s j hlt]
  simp only [strB, List.map_map, List.getElem?_map] at hj
  have hj' : j < s.data.toList.length := by have h' := hlt; rwa [← strB_length, strB, List.length_map] at h'
  rw [List.getElem?_eq_getElem hj'] at hj
  rw [List.getD_eq_getElem?_getD, List.getElem?_eq_getElem hj']
  simpa using hj
theorem Chg.ofString (w : World) (s : ByteArray) (S : Nat → Prop) : Chg S w (Lib.bytesWorld w 5 s) :=
  ⟨rfl, rfl, rfl, by rw [Lib.bytesWorld_size]; omega, fun k hk _ => Lib.bytesWorld_at_old w _ s k hk⟩
theorem u8s_one (l : List Int) : ∀ u ∈ l.map (Value.int .u8), u.oneCell' = true := ints_oneCell _ _

/-- A slice in new memory that holds the bytes bs, as the one result; nothing that was there has turned. -/
def Gives (w : World) (bs : List Int) (e : Ending) (w' : World) : Prop :=
  ∃ A c, e = .returned (.slice A bs.length c) ∧ w'.ownsRow w.heap.size 5 1 (.slice A bs.length c) bs.length (bs.map (Value.int .u8)) ∧ Chg (fun _ => False) w w'

theorem Off.of_lt {S : Nat → Prop} {A : Option Addr} {B : Nat} (h : ∀ x, blk A = some x → B ≤ x) (hS : ∀ x, S x → x < B) : Off S A := by
  intro x hx hs
  have := h x hx
  have := hS x hs
  omega
theorem WAt.foot_lt {T : TypeId} {w : World} {p c : Nat} {A : Option Addr} {bs : List Int} (h : WAt T w p A c bs) : ∀ x, wFoot p A x → x < w.heap.size := by
  rintro x (rfl | hx)
  · exact h.lt
  · exact (own_lt h.own hx).2

/-- What Short lays: a length of two bytes, the bytes. -/
def shortB (xs : List Int) : List Int := be (xs.length : Int) 2 ++ xs

/-- 'string(b)' of a slice that reads as bytes, nil let in. -/
theorem run_convert_rd {P : Program} (w : World) (src dst e : TypeId) (hs : P.underlying src = some (.slice e)) (he : P.underlying e = some (.int .u8)) (hd : P.underlying dst = some .string)
    (A : Option Addr) (n c : Nat) (xs : List Int) (hn : xs.length = n) (hr : Rd w A (xs.map (Value.int .u8))) : (convert src dst (.slice A n c)).run P w = .ok (.string (strOfNums xs)) w := by
  rcases Nat.eq_zero_or_pos n with h0 | h0
  · have hx : xs = [] := List.eq_nil_of_length_eq_zero (by omega)
    subst hx h0
    rcases A with _ | ad
    · rw [run_convert_bytes_nil w src e hs he 0 c dst hd]; rfl
    · rw [run_convert_bytes_string w src dst e _ 0 c hs he hd, run_bytesToString w ad 0 c [] (by simp [loadCells, loadCellsFrom])]
      rfl
  · obtain ⟨b, o, rfl, _⟩ := hr.at_ (k := 0) (by simpa [hn] using h0)
    refine run_convert_bytes_arg w src e hs he b o n c xs hn (fun i hi => ?_) dst hd
    have := hr.cells rfl i (.int .u8 (xs.getD i 0)) (by rw [List.getElem?_map, List.getElem?_eq_getElem (by omega), List.getD_eq_getElem?_getD, List.getElem?_eq_getElem (by omega)]; rfl)
    exact this

set_option maxHeartbeats 1000000 in
theorem put_any (p : Nat) (A : Option Addr) (c : Nat) (bs : List Int) (x : Int) (n : Nat) (w : World) (h : WAt 88 w p A c bs) (hx : 0 ≤ x) (hx2 : x ≤ 18446744073709551615) (hn : n ≤ 8) (hb : bs.length + 8 ≤ 140737488355328) :
    Calls Tryz.prog 44 #[.pointer (some ⟨p, 0, none⟩), .int .u64 x, .int .i64 n] w fun e w' => e = .returned (.tuple #[]) ∧ Wrote 88 w w' p A (bs ++ be x n) := by
  obtain ⟨i0, hi, hz0, hz1, hz2⟩ := info_parts byteInfo
  go_enter Tryz.func44, Tryz.ntmps44
  go_wp2_with fail
  go_loopw [6] (fun i wr => PutRel 88 n x w p A bs i wr) (fun i _ => (intOf i + 1).toNat)
  case atStart => exact ⟨n, [], Nat.le_refl _, rfl, by simp, by simpa using h.wrote⟩
  case round =>
    obtain ⟨j, done, hj, rfl, hd, A1, c1, hw1, hc1, hv1⟩ := hrel
    have hcell := hw1.cell
    have hfz := hw1.frozen
    have hlt := hw1.lt
    rcases j with _ | j
    · go_wp2_with fail
      go_end0
      refine ⟨rfl, A1, c1, ?_, hc1, hv1⟩
      simp [be] at hd
      rw [← hd]
      exact hw1
    · rw [show ((j + 1 : Nat) : Int) - 1 = (j : Int) from by omega]
      have hm8 : IntKind.i64.wrap (8 * (j : Int)) = 8 * (j : Int) := IntWalk.i64_in _ (by omega)
      have hl : (bs ++ done).length + 1 ≤ maxLen ∧ ((bs ++ done).length + 1) * 1 ≤ 140737488355328 := by
        have := congrArg List.length hd
        simp [be_length] at this
        simp [maxLen]
        omega
      obtain ⟨hl1, hl2⟩ := hl
      have HD := Lib.hid hd
      clear hd
      obtain ⟨cur, hcur⟩ : ∃ cur, cur = bs ++ done := ⟨_, rfl⟩
      rw [← hcur] at hw1 hcell hl1 hl2
      have HC := Lib.hid hcur
      clear hcur
      go_wp2_with fail
      go_region_law (refine step_append_rd _ rfl (.tmp 17) (.tmp 23) 24 rfl 0 5 i0 _ 1 1 Tryz.underlying24 hi hz0 hz1 hz2 rfl (by decide) A1 cur.length c1 (cur.map (Value.int .u8)) (by simp [Act.eval]) (by exact World.ownsRow.drew (hw1.own.alloc _)) (some ⟨wr.heap.size, 0, none⟩) 1 1 ([IntKind.u8.wrap (x / 2 ^ (8 * (j : Int)).toNat)].map (Value.int .u8)) (by simp [Act.eval]) rfl (by exact Rd.new1 _ _ _) (one1 _ rfl) hl1 hl2 (Nat.zero_le _) ?_; intro A2 c2 w2 hown2 hg2 hb2; obtain ⟨hq1, hq2, hq3⟩ := WAt.appended hw1 rfl hown2 (Chg.trans (((Chg.refl _ wr).alloc _).drew) hg2 (fun x hx => .inl hx)) (by rcases hb2 with e | e <;> simp [e]))
      all_goals
        have hq4 := Wrote.trans hc1 hv1 hq3
        clear hq3 hq2 hq1 hown2 hg2 hb2 hcell hfz hw1
        go_wp2_with fail
        go_roundw
        case rel => exact ⟨j, done ++ [IntKind.u8.wrap (x / 2 ^ (8 * (j : Int)).toNat)], by omega, by go_num, by rw [← HD.out, u8_shift x j hx]; simp [be], by rw [← List.append_assoc, ← HC.out]; exact hq4⟩
        case measure => simp [intOf] <;> omega

theorem u8_any (p : Nat) (A : Option Addr) (c : Nat) (bs : List Int) (x : Int) (w : World) (h : WAt 88 w p A c bs) (hb : bs.length + 8 ≤ 140737488355328) :
    Calls Tryz.prog 46 #[.pointer (some ⟨p, 0, none⟩), .int .i64 x] w fun e w' => e = .returned (.tuple #[]) ∧ Wrote 88 w w' p A (bs ++ be (IntKind.u64.wrap x) 1) := by
  have hr := IntKind.wrap_u64 x
  have h1 : 0 ≤ IntKind.u64.wrap x := by rw [hr]; omega
  have h2 : IntKind.u64.wrap x ≤ 18446744073709551615 := by rw [hr]; omega
  clear hr
  go_enter Tryz.func46, Tryz.ntmps46
  go_wp2_with fail
  refine (put_any p A c bs _ 1 _ h h1 h2 (by omega) hb).mono ?_
  rintro e w' ⟨rfl, hw⟩
  go_wp2_with fail
  go_end0
  exact ⟨rfl, hw⟩
theorem u16_any (p : Nat) (A : Option Addr) (c : Nat) (bs : List Int) (x : Int) (w : World) (h : WAt 88 w p A c bs) (hb : bs.length + 8 ≤ 140737488355328) :
    Calls Tryz.prog 21 #[.pointer (some ⟨p, 0, none⟩), .int .i64 x] w fun e w' => e = .returned (.tuple #[]) ∧ Wrote 88 w w' p A (bs ++ be (IntKind.u64.wrap x) 2) := by
  have hr := IntKind.wrap_u64 x
  have h1 : 0 ≤ IntKind.u64.wrap x := by rw [hr]; omega
  have h2 : IntKind.u64.wrap x ≤ 18446744073709551615 := by rw [hr]; omega
  clear hr
  go_enter Tryz.func21, Tryz.ntmps21
  go_wp2_with fail
  refine (put_any p A c bs _ 2 _ h h1 h2 (by omega) hb).mono ?_
  rintro e w' ⟨rfl, hw⟩
  go_wp2_with fail
  go_end0
  exact ⟨rfl, hw⟩
theorem u64_any (p : Nat) (A : Option Addr) (c : Nat) (bs : List Int) (x : Int) (w : World) (h : WAt 88 w p A c bs) (hb : bs.length + 8 ≤ 140737488355328) :
    Calls Tryz.prog 45 #[.pointer (some ⟨p, 0, none⟩), .int .i64 x] w fun e w' => e = .returned (.tuple #[]) ∧ Wrote 88 w w' p A (bs ++ be (IntKind.u64.wrap x) 8) := by
  have hr := IntKind.wrap_u64 x
  have h1 : 0 ≤ IntKind.u64.wrap x := by rw [hr]; omega
  have h2 : IntKind.u64.wrap x ≤ 18446744073709551615 := by rw [hr]; omega
  clear hr
  go_enter Tryz.func45, Tryz.ntmps45
  go_wp2_with fail
  refine (put_any p A c bs _ 8 _ h h1 h2 (by omega) hb).mono ?_
  rintro e w' ⟨rfl, hw⟩
  go_wp2_with fail
  go_end0
  exact ⟨rfl, hw⟩

set_option maxHeartbeats 1000000 in
theorem raw_any (p : Nat) (A : Option Addr) (c : Nat) (bs : List Int) (B : Option Addr) (d m : Nat) (xs : List Int) (w : World) (h : WAt 88 w p A c bs) (hx : Rd w B (xs.map (Value.int .u8))) (hm : xs.length = m) (hb : bs.length + m ≤ 140737488355328) :
    Calls Tryz.prog 48 #[.pointer (some ⟨p, 0, none⟩), .slice B m d] w fun e w' => e = .returned (.tuple #[]) ∧ Wrote 88 w w' p A (bs ++ xs) := by
  obtain ⟨i0, hi, hz0, hz1, hz2⟩ := info_parts byteInfo
  have hcell := h.cell
  have hfz := h.frozen
  have hlt := h.lt
  have hl1 : bs.length + m ≤ maxLen := by simp only [maxLen]; omega
  have hl2 : (bs.length + m) * 1 ≤ 140737488355328 := by omega
  have HM := Lib.hid hm
  clear hm
  go_enter Tryz.func48, Tryz.ntmps48
  go_wp2_with (at_builtin; refine wpList_append_rd _ rfl (.tmp 8) (.tmp 9) 24 rfl 0 5 i0 _ 1 1 Tryz.underlying24 hi hz0 hz1 hz2 rfl (by decide) A bs.length c (bs.map (Value.int .u8)) rfl h.own B m d (xs.map (Value.int .u8)) rfl (by rw [List.length_map, HM.out]; omega) hx (u8s_one _) hl1 hl2 (Nat.zero_le _) ?_; intro A2 c2 w2 hown2 hg2 hb2; obtain ⟨hq1, hq2, hq3⟩ := WAt.appended h HM.out hown2 hg2 (by rcases hb2 with e | e <;> simp [e]))
  go_end0
  exact ⟨rfl, hq3⟩

theorem short_no (p : Nat) (A : Option Addr) (c : Nat) (bs : List Int) (B : Option Addr) (d m : Nat) (w : World) (h : WAt 88 w p A c bs) (hm : 65535 < m) (hm2 : m ≤ 140737488355328) :
    Calls Tryz.prog 23 #[.pointer (some ⟨p, 0, none⟩), .slice B m d] w fun e w' => e = .returned (.bool false) ∧ w = w' := by
  go_enter Tryz.func23, Tryz.ntmps23
  go_wp2_with fail
  go_ret
  exact ⟨rfl, rfl⟩

theorem short_yes (p : Nat) (A : Option Addr) (c : Nat) (bs : List Int) (B : Option Addr) (d m : Nat) (xs : List Int) (w : World) (h : WAt 88 w p A c bs) (hx : Rd w B (xs.map (Value.int .u8))) (hB : xs ≠ [] → Off (wFoot p A) B) (hxm : xs.length = m) (hm : m ≤ 65535) (hb : bs.length + 8 + m ≤ 140737488355328) :
    Calls Tryz.prog 23 #[.pointer (some ⟨p, 0, none⟩), .slice B m d] w fun e w' => e = .returned (.bool true) ∧ Wrote 88 w w' p A (bs ++ shortB xs) := by
  have hw : IntKind.u64.wrap (m : Int) = m := IntWalk.u64_in _ ⟨by omega, by omega⟩
  have HW := Lib.hid hw
  have HM := Lib.hid hxm
  clear hw hxm
  go_enter Tryz.func23, Tryz.ntmps23
  go_wp2_with fail
  refine (u16_any p A c bs _ _ h (by omega)).mono ?_
  rintro e w1 ⟨rfl, A1, c1, h1, hc1, hb1⟩
  rw [HW.out] at h1
  go_wp2_with fail
  refine (raw_any p A1 c1 _ B d m xs _ h1 (hx.keep' hc1 (fun hn => hB (by simpa using hn))) HM.out (by rw [List.length_append, be_length]; omega)).mono ?_
  rintro e w2 ⟨rfl, hw2⟩
  go_wp2_with fail
  go_ret
  refine ⟨rfl, ?_⟩
  have := Wrote.trans hc1 hb1 hw2
  rw [shortB, HM.out, ← List.append_assoc]
  exact this

theorem text_no (p : Nat) (A : Option Addr) (c : Nat) (bs : List Int) (s : ByteArray) (w : World) (h : WAt 88 w p A c bs) (hm : 65535 < s.size) (hm2 : s.size ≤ 140737488355328) :
    Calls Tryz.prog 47 #[.pointer (some ⟨p, 0, none⟩), .string s] w fun e w' => e = .returned (.bool false) ∧ Chg (fun _ => False) w w' := by
  have kc := fun (w : World) (s : ByteArray) => Lib.run_convert_string_bytes (P := Tryz.prog) w 9 24 5 s Tryz.underlying9 Tryz.underlying24 Tryz.underlying5
  go_enter Tryz.func47, Tryz.ntmps47
  go_wp2_with fail
  refine (short_no p A c bs _ _ _ _ (h.keep (Chg.ofString w s (fun _ => False)) (fun h => h) (fun _ _ h => h)) hm hm2).mono ?_
  rintro e w1 ⟨rfl, rfl⟩
  go_wp2_with fail
  go_ret
  exact ⟨rfl, Chg.ofString _ _ _⟩

theorem text_yes (p : Nat) (A : Option Addr) (c : Nat) (bs : List Int) (s : ByteArray) (w : World) (h : WAt 88 w p A c bs) (hm : s.size ≤ 65535) (hb : bs.length + 8 + s.size ≤ 140737488355328) :
    Calls Tryz.prog 47 #[.pointer (some ⟨p, 0, none⟩), .string s] w fun e w' => e = .returned (.bool true) ∧ Wrote 88 w w' p A (bs ++ shortB (strB s)) := by
  have kc := fun (w : World) (s : ByteArray) => Lib.run_convert_string_bytes (P := Tryz.prog) w 9 24 5 s Tryz.underlying9 Tryz.underlying24 Tryz.underlying5
  go_enter Tryz.func47, Tryz.ntmps47
  go_wp2_with fail
  refine (short_yes p A c bs _ _ _ (strB s) _ (h.keep (Chg.ofString w s (fun _ => False)) (fun h => h) (fun _ _ h => h)) (Rd.ofString w s)
    (fun _ => Off.of_lt (B := w.heap.size) (by intro x hx; cases hx; exact Nat.le_refl _) h.foot_lt) (strB_length s) hm hb).mono ?_
  rintro e w1 ⟨rfl, hw1⟩
  go_wp2_with fail
  go_ret
  obtain ⟨A1, c1, h1, hc1, hb1⟩ := hw1
  refine ⟨rfl, A1, c1, h1, (Chg.ofString w s (wFoot p A)).trans hc1 (fun x hx => .inl hx), ?_⟩
  rcases hb1 with e | ⟨g, e, hg⟩
  · exact .inl e
  · exact .inr ⟨g, e, by rw [Lib.bytesWorld_size] at hg; omega⟩
set_option maxHeartbeats 1000000 in
theorem rput_any (p : Nat) (A : Option Addr) (c : Nat) (bs : List Int) (x : Int) (n : Nat) (w : World) (h : WAt 55 w p A c bs) (hx : 0 ≤ x) (hx2 : x ≤ 18446744073709551615) (hn : n ≤ 8) (hb : bs.length + 8 ≤ 140737488355328) :
    Calls Tryz.prog 49 #[.pointer (some ⟨p, 0, none⟩), .int .u64 x, .int .i64 n] w fun e w' => e = .returned (.tuple #[]) ∧ Wrote 55 w w' p A (bs ++ be x n) := by
  obtain ⟨i0, hi, hz0, hz1, hz2⟩ := info_parts byteInfo
  go_enter Tryz.func49, Tryz.ntmps49
  go_wp2_with fail
  go_loopw [6] (fun i wr => PutRel 55 n x w p A bs i wr) (fun i _ => (intOf i + 1).toNat)
  case atStart => exact ⟨n, [], Nat.le_refl _, rfl, by simp, by simpa using h.wrote⟩
  case round =>
    obtain ⟨j, done, hj, rfl, hd, A1, c1, hw1, hc1, hv1⟩ := hrel
    have hcell := hw1.cell
    have hfz := hw1.frozen
    have hlt := hw1.lt
    rcases j with _ | j
    · go_wp2_with fail
      go_end0
      refine ⟨rfl, A1, c1, ?_, hc1, hv1⟩
      simp [be] at hd
      rw [← hd]
      exact hw1
    · rw [show ((j + 1 : Nat) : Int) - 1 = (j : Int) from by omega]
      have hm8 : IntKind.i64.wrap (8 * (j : Int)) = 8 * (j : Int) := IntWalk.i64_in _ (by omega)
      have hl : (bs ++ done).length + 1 ≤ maxLen ∧ ((bs ++ done).length + 1) * 1 ≤ 140737488355328 := by
        have := congrArg List.length hd
        simp [be_length] at this
        simp [maxLen]
        omega
      obtain ⟨hl1, hl2⟩ := hl
      have HD := Lib.hid hd
      clear hd
      obtain ⟨cur, hcur⟩ : ∃ cur, cur = bs ++ done := ⟨_, rfl⟩
      rw [← hcur] at hw1 hcell hl1 hl2
      have HC := Lib.hid hcur
      clear hcur
      go_wp2_with (at_builtin; refine wpList_append_rd _ rfl (.tmp 17) (.tmp 24) 24 rfl 0 5 i0 _ 1 1 Tryz.underlying24 hi hz0 hz1 hz2 rfl (by decide) A1 cur.length c1 (cur.map (Value.int .u8)) rfl (hw1.own.alloc _) (some ⟨wr.heap.size, 0, none⟩) 1 1 ([IntKind.u8.wrap (x / 2 ^ (8 * (j : Int)).toNat)].map (Value.int .u8)) rfl rfl (Rd.new1 _ _ _) (one1 _ rfl) hl1 hl2 (Nat.zero_le _) ?_; intro A2 c2 w2 hown2 hg2 hb2; obtain ⟨hq1, hq2, hq3⟩ := WAt.appended hw1 rfl hown2 (Chg.trans ((Chg.refl _ wr).alloc _) hg2 (fun x hx => .inl hx)) (by rcases hb2 with e | e <;> simp [e]))
      all_goals
        have hq4 := Wrote.trans hc1 hv1 hq3
        clear hq3 hq2 hq1 hown2 hg2 hb2 hcell hfz hw1
        go_wp2_with fail
        go_roundw
        case rel => exact ⟨j, done ++ [IntKind.u8.wrap (x / 2 ^ (8 * (j : Int)).toNat)], by omega, by go_num, by rw [← HD.out, u8_shift x j hx]; simp [be], by rw [← List.append_assoc, ← HC.out]; exact hq4⟩
        case measure => simp [intOf] <;> omega

theorem ru8_any (p : Nat) (A : Option Addr) (c : Nat) (bs : List Int) (x : Int) (w : World) (h : WAt 55 w p A c bs) (hb : bs.length + 8 ≤ 140737488355328) :
    Calls Tryz.prog 51 #[.pointer (some ⟨p, 0, none⟩), .int .i64 x] w fun e w' => e = .returned (.tuple #[]) ∧ Wrote 55 w w' p A (bs ++ be (IntKind.u64.wrap x) 1) := by
  have hr := IntKind.wrap_u64 x
  have h1 : 0 ≤ IntKind.u64.wrap x := by rw [hr]; omega
  have h2 : IntKind.u64.wrap x ≤ 18446744073709551615 := by rw [hr]; omega
  clear hr
  go_enter Tryz.func51, Tryz.ntmps51
  go_wp2_with fail
  refine (rput_any p A c bs _ 1 _ h h1 h2 (by omega) hb).mono ?_
  rintro e w' ⟨rfl, hw⟩
  go_wp2_with fail
  go_end0
  exact ⟨rfl, hw⟩
theorem ru16_any (p : Nat) (A : Option Addr) (c : Nat) (bs : List Int) (x : Int) (w : World) (h : WAt 55 w p A c bs) (hb : bs.length + 8 ≤ 140737488355328) :
    Calls Tryz.prog 25 #[.pointer (some ⟨p, 0, none⟩), .int .i64 x] w fun e w' => e = .returned (.tuple #[]) ∧ Wrote 55 w w' p A (bs ++ be (IntKind.u64.wrap x) 2) := by
  have hr := IntKind.wrap_u64 x
  have h1 : 0 ≤ IntKind.u64.wrap x := by rw [hr]; omega
  have h2 : IntKind.u64.wrap x ≤ 18446744073709551615 := by rw [hr]; omega
  clear hr
  go_enter Tryz.func25, Tryz.ntmps25
  go_wp2_with fail
  refine (rput_any p A c bs _ 2 _ h h1 h2 (by omega) hb).mono ?_
  rintro e w' ⟨rfl, hw⟩
  go_wp2_with fail
  go_end0
  exact ⟨rfl, hw⟩
theorem ru64_any (p : Nat) (A : Option Addr) (c : Nat) (bs : List Int) (x : Int) (w : World) (h : WAt 55 w p A c bs) (hb : bs.length + 8 ≤ 140737488355328) :
    Calls Tryz.prog 50 #[.pointer (some ⟨p, 0, none⟩), .int .i64 x] w fun e w' => e = .returned (.tuple #[]) ∧ Wrote 55 w w' p A (bs ++ be (IntKind.u64.wrap x) 8) := by
  have hr := IntKind.wrap_u64 x
  have h1 : 0 ≤ IntKind.u64.wrap x := by rw [hr]; omega
  have h2 : IntKind.u64.wrap x ≤ 18446744073709551615 := by rw [hr]; omega
  clear hr
  go_enter Tryz.func50, Tryz.ntmps50
  go_wp2_with fail
  refine (rput_any p A c bs _ 8 _ h h1 h2 (by omega) hb).mono ?_
  rintro e w' ⟨rfl, hw⟩
  go_wp2_with fail
  go_end0
  exact ⟨rfl, hw⟩

set_option maxHeartbeats 1000000 in
theorem rraw_any (p : Nat) (A : Option Addr) (c : Nat) (bs : List Int) (B : Option Addr) (d m : Nat) (xs : List Int) (w : World) (h : WAt 55 w p A c bs) (hx : Rd w B (xs.map (Value.int .u8))) (hm : xs.length = m) (hb : bs.length + m ≤ 140737488355328) :
    Calls Tryz.prog 53 #[.pointer (some ⟨p, 0, none⟩), .slice B m d] w fun e w' => e = .returned (.tuple #[]) ∧ Wrote 55 w w' p A (bs ++ xs) := by
  obtain ⟨i0, hi, hz0, hz1, hz2⟩ := info_parts byteInfo
  have hcell := h.cell
  have hfz := h.frozen
  have hlt := h.lt
  have hl1 : bs.length + m ≤ maxLen := by simp only [maxLen]; omega
  have hl2 : (bs.length + m) * 1 ≤ 140737488355328 := by omega
  have HM := Lib.hid hm
  clear hm
  go_enter Tryz.func53, Tryz.ntmps53
  go_wp2_with (at_builtin; refine wpList_append_rd _ rfl (.tmp 8) (.tmp 9) 24 rfl 0 5 i0 _ 1 1 Tryz.underlying24 hi hz0 hz1 hz2 rfl (by decide) A bs.length c (bs.map (Value.int .u8)) rfl h.own B m d (xs.map (Value.int .u8)) rfl (by rw [List.length_map, HM.out]; omega) hx (u8s_one _) hl1 hl2 (Nat.zero_le _) ?_; intro A2 c2 w2 hown2 hg2 hb2; obtain ⟨hq1, hq2, hq3⟩ := WAt.appended h HM.out hown2 hg2 (by rcases hb2 with e | e <;> simp [e]))
  go_end0
  exact ⟨rfl, hq3⟩

theorem rshort_no (p : Nat) (A : Option Addr) (c : Nat) (bs : List Int) (B : Option Addr) (d m : Nat) (w : World) (h : WAt 55 w p A c bs) (hm : 65535 < m) (hm2 : m ≤ 140737488355328) :
    Calls Tryz.prog 27 #[.pointer (some ⟨p, 0, none⟩), .slice B m d] w fun e w' => e = .returned (.bool false) ∧ w = w' := by
  go_enter Tryz.func27, Tryz.ntmps27
  go_wp2_with fail
  go_ret
  exact ⟨rfl, rfl⟩

theorem rshort_yes (p : Nat) (A : Option Addr) (c : Nat) (bs : List Int) (B : Option Addr) (d m : Nat) (xs : List Int) (w : World) (h : WAt 55 w p A c bs) (hx : Rd w B (xs.map (Value.int .u8))) (hB : xs ≠ [] → Off (wFoot p A) B) (hxm : xs.length = m) (hm : m ≤ 65535) (hb : bs.length + 8 + m ≤ 140737488355328) :
    Calls Tryz.prog 27 #[.pointer (some ⟨p, 0, none⟩), .slice B m d] w fun e w' => e = .returned (.bool true) ∧ Wrote 55 w w' p A (bs ++ shortB xs) := by
  have hw : IntKind.u64.wrap (m : Int) = m := IntWalk.u64_in _ ⟨by omega, by omega⟩
  have HW := Lib.hid hw
  have HM := Lib.hid hxm
  clear hw hxm
  go_enter Tryz.func27, Tryz.ntmps27
  go_wp2_with fail
  refine (ru16_any p A c bs _ _ h (by omega)).mono ?_
  rintro e w1 ⟨rfl, A1, c1, h1, hc1, hb1⟩
  rw [HW.out] at h1
  go_wp2_with fail
  refine (rraw_any p A1 c1 _ B d m xs _ h1 (hx.keep' hc1 (fun hn => hB (by simpa using hn))) HM.out (by rw [List.length_append, be_length]; omega)).mono ?_
  rintro e w2 ⟨rfl, hw2⟩
  go_wp2_with fail
  go_ret
  refine ⟨rfl, ?_⟩
  have := Wrote.trans hc1 hb1 hw2
  rw [shortB, HM.out, ← List.append_assoc]
  exact this

theorem rtext_no (p : Nat) (A : Option Addr) (c : Nat) (bs : List Int) (s : ByteArray) (w : World) (h : WAt 55 w p A c bs) (hm : 65535 < s.size) (hm2 : s.size ≤ 140737488355328) :
    Calls Tryz.prog 52 #[.pointer (some ⟨p, 0, none⟩), .string s] w fun e w' => e = .returned (.bool false) ∧ Chg (fun _ => False) w w' := by
  have kc := fun (w : World) (s : ByteArray) => Lib.run_convert_string_bytes (P := Tryz.prog) w 9 24 5 s Tryz.underlying9 Tryz.underlying24 Tryz.underlying5
  go_enter Tryz.func52, Tryz.ntmps52
  go_wp2_with fail
  refine (rshort_no p A c bs _ _ _ _ (h.keep (Chg.ofString w s (fun _ => False)) (fun h => h) (fun _ _ h => h)) hm hm2).mono ?_
  rintro e w1 ⟨rfl, rfl⟩
  go_wp2_with fail
  go_ret
  exact ⟨rfl, Chg.ofString _ _ _⟩

theorem rtext_yes (p : Nat) (A : Option Addr) (c : Nat) (bs : List Int) (s : ByteArray) (w : World) (h : WAt 55 w p A c bs) (hm : s.size ≤ 65535) (hb : bs.length + 8 + s.size ≤ 140737488355328) :
    Calls Tryz.prog 52 #[.pointer (some ⟨p, 0, none⟩), .string s] w fun e w' => e = .returned (.bool true) ∧ Wrote 55 w w' p A (bs ++ shortB (strB s)) := by
  have kc := fun (w : World) (s : ByteArray) => Lib.run_convert_string_bytes (P := Tryz.prog) w 9 24 5 s Tryz.underlying9 Tryz.underlying24 Tryz.underlying5
  go_enter Tryz.func52, Tryz.ntmps52
  go_wp2_with fail
  refine (rshort_yes p A c bs _ _ _ (strB s) _ (h.keep (Chg.ofString w s (fun _ => False)) (fun h => h) (fun _ _ h => h)) (Rd.ofString w s)
    (fun _ => Off.of_lt (B := w.heap.size) (by intro x hx; cases hx; exact Nat.le_refl _) h.foot_lt) (strB_length s) hm hb).mono ?_
  rintro e w1 ⟨rfl, hw1⟩
  go_wp2_with fail
  go_ret
  obtain ⟨A1, c1, h1, hc1, hb1⟩ := hw1
  refine ⟨rfl, A1, c1, h1, (Chg.ofString w s (wFoot p A)).trans hc1 (fun x hx => .inl hx), ?_⟩
  rcases hb1 with e | ⟨g, e, hg⟩
  · exact .inl e
  · exact .inr ⟨g, e, by rw [Lib.bytesWorld_size] at hg; omega⟩

theorem WAt.new (T : TypeId) (w : World) : WAt T (w.alloc (.cells #[.slice none 0 0] T)) w.heap.size none 0 [] :=
  ⟨heap_alloc_new w _, World.ownsRow_nil _ _ _ _, fun x hx => by cases hx⟩

/-- A new writer. -/
theorem newW_any (w : World) :
    Calls Tryz.prog 20 #[] w fun e w' => ∃ p, e = .returned (.pointer (some ⟨p, 0, none⟩)) ∧ w.heap.size ≤ p ∧ WAt 88 w' p none 0 [] ∧ Chg (fun _ => False) w w' := by
  go_enter Tryz.func20, Tryz.ntmps20
  go_wp2
  go_ret
  exact ⟨w.heap.size, rfl, Nat.le_refl _, WAt.new _ _, (Chg.refl _ _).alloc _⟩

set_option maxHeartbeats 1000000 in
theorem bytes_any (p : Nat) (A : Option Addr) (c : Nat) (bs : List Int) (w : World) (h : WAt 88 w p A c bs) (hb : bs.length ≤ 140737488355328) :
    Calls Tryz.prog 24 #[.pointer (some ⟨p, 0, none⟩)] w (Gives w bs) := by
  obtain ⟨i0, hi, hz0, hz1, hz2⟩ := info_parts byteInfo
  have hcell := h.cell
  have hlt := h.lt
  have hl1 : 0 + bs.length ≤ maxLen := by simp only [maxLen]; omega
  have hl2 : (0 + bs.length) * 1 ≤ 140737488355328 := by omega
  have hmade : (w.alloc (.cells #[] 5)).ownsRow w.heap.size 5 1 (.slice (some ⟨w.heap.size, 0, none⟩) 0 0) 0 [] := World.ownsRow_made w #[] 0 (Nat.le_refl _) (by decide) rfl
  go_enter Tryz.func24, Tryz.ntmps24
  go_wp2_with (at_builtin; refine wpList_append_rd _ rfl (.tmp 3) (.tmp 7) 24 rfl w.heap.size 5 i0 _ 1 1 Tryz.underlying24 hi hz0 hz1 hz2 rfl (by decide) _ 0 0 [] rfl hmade A bs.length c (bs.map (Value.int .u8)) rfl (by simp) (h.rd.alloc _) (u8s_one _) hl1 hl2 (by simp) ?_; intro A2 c2 w2 hown2 hg2 hb2)
  go_ret
  simp only [Nat.zero_add, List.nil_append] at hown2
  refine ⟨A2, c2, by simp, hown2, ((Chg.refl _ w).alloc _).trans hg2 ?_⟩
  intro x hx
  cases hx
  exact .inr (Nat.le_refl _)
end Go.Proofs.YtngfimjbgopgjaaGreatDoor
