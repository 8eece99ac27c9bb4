/- St, StMet, in one text (merge.py). -/
import Derived.Test.YtngfimjbgopgjaaGreatDoorDef
import Derived.Test.YtngfimjbgopgjaaGreatDoorEvRead
import Derived.Test.YtngfimjbgopgjaaGreatDoorEvDefR
import Derived.Lib.Hide
import Derived.Deep.CutBlock
import Derived.Deep.DeepCutAuto
/- A run's state in memory (cutoverref11), as far as the walks of a branch need it; contracts of its small functions: that they give something. -/
namespace Go.Proofs.YtngfimjbgopgjaaGreatDoor
open Go.RowKit
set_option linter.unusedVariables false

structure Nd where
  st : Int
  tr : Int
  du : Int
  A : Option Addr
  n : Nat
  c : Nat
structure Tm where
  nm : ByteArray
  du : Int
  fi : Bool
structure Sg where
  nm : ByteArray
  id : Int
  A : Option Addr
  n : Nat
  c : Nat
def ndC : List Nd → List Value
  | [] => []
  | x :: l => .int .i64 x.st :: .int .i64 x.tr :: .int .i64 x.du :: .slice x.A x.n x.c :: ndC l
def tmC : List Tm → List Value
  | [] => []
  | x :: l => .string x.nm :: .int .i64 x.du :: .bool x.fi :: tmC l
def sgC : List Sg → List Value
  | [] => []
  | x :: l => .string x.nm :: .int .i64 x.id :: .slice x.A x.n x.c :: sgC l
theorem ndC_len (l : List Nd) : (ndC l).length = l.length * 4 := by
  induction l with
  | nil => rfl
  | cons x l ih => simp only [ndC, List.length_cons, ih]; omega
theorem tmC_len (l : List Tm) : (tmC l).length = l.length * 3 := by
  induction l with
  | nil => rfl
  | cons x l ih => simp only [tmC, List.length_cons, ih]; omega
theorem sgC_len (l : List Sg) : (sgC l).length = l.length * 3 := by
  induction l with
  | nil => rfl
  | cons x l ih => simp only [sgC, List.length_cons, ih]; omega
theorem ndC_get (l : List Nd) (k : Nat) (h : k < l.length) : (ndC l)[k * 4]? = some (.int .i64 l[k].st) ∧ (ndC l)[k * 4 + 1]? = some (.int .i64 l[k].tr) ∧ (ndC l)[k * 4 + 2]? = some (.int .i64 l[k].du) ∧ (ndC l)[k * 4 + 3]? = some (.slice l[k].A l[k].n l[k].c) := by
  induction l generalizing k with
  | nil => simp at h
  | cons x l ih =>
    cases k with
    | zero => exact ⟨rfl, rfl, rfl, rfl⟩
    | succ k =>
      have := ih k (by simpa using h)
      rw [show (k + 1) * 4 = k * 4 + 1 + 1 + 1 + 1 by omega]
      simpa [ndC] using this
theorem tmC_get (l : List Tm) (k : Nat) (h : k < l.length) : (tmC l)[k * 3]? = some (.string l[k].nm) ∧ (tmC l)[k * 3 + 1]? = some (.int .i64 l[k].du) ∧ (tmC l)[k * 3 + 2]? = some (.bool l[k].fi) := by
  induction l generalizing k with
  | nil => simp at h
  | cons x l ih =>
    cases k with
    | zero => exact ⟨rfl, rfl, rfl⟩
    | succ k =>
      have := ih k (by simpa using h)
      rw [show (k + 1) * 3 = k * 3 + 1 + 1 + 1 by omega]
      simpa [tmC] using this
theorem sgC_get (l : List Sg) (k : Nat) (h : k < l.length) : (sgC l)[k * 3]? = some (.string l[k].nm) ∧ (sgC l)[k * 3 + 1]? = some (.int .i64 l[k].id) ∧ (sgC l)[k * 3 + 2]? = some (.slice l[k].A l[k].n l[k].c) := by
  induction l generalizing k with
  | nil => simp at h
  | cons x l ih =>
    cases k with
    | zero => exact ⟨rfl, rfl, rfl⟩
    | succ k =>
      have := ih k (by simpa using h)
      rw [show (k + 1) * 3 = k * 3 + 1 + 1 + 1 by omega]
      simpa [sgC] using this
/-- A state. -/
structure StV where
  id : Int
  ver : Int
  tm : Int
  cl : Int
  ca : Bool
  D : Option Addr
  dl : List Df
  dc : Nat
  N : Option Addr
  nl : List Nd
  nc : Nat
  T : Option Addr
  tl : List Tm
  tc : Nat
  S : Option Addr
  sl : List Sg
  sc : Nat
def StV.row (s : StV) : Array Value := #[.int .i64 s.id, .int .i64 s.ver, .int .i64 s.tm, .int .i64 s.cl, .bool s.ca, .slice s.D s.dl.length s.dc, .slice s.N s.nl.length s.nc, .slice s.T s.tl.length s.tc, .slice s.S s.sl.length s.sc]
def StV.val (s : StV) : Value := .agg s.row
/-- What is known of a state: it can be read; as many nodes as Defs; bounds. -/
structure StOk (w : World) (s : StV) : Prop where
  ds : RdDf w s.D s.dl
  nd : Rd w s.N (ndC s.nl)
  tm : Rd w s.T (tmC s.tl)
  sg : Rd w s.S (sgC s.sl)
  dn : s.dl.length = s.nl.length
  d8 : s.dl.length ≤ 8
  ns : ∀ d ∈ s.dl, d.ns.length ≤ 255 ∧ ∀ n ∈ d.ns, 0 ≤ n
  tn : s.tl.length ≤ 1048576
  sn : s.sl.length ≤ 1048576
theorem StOk.still {w w' : World} {s : StV} (h : StOk w s) (hc : Chg (fun _ => False) w w') : StOk w' s :=
  ⟨h.ds.still hc, h.nd.keep hc (fun _ _ h => h), h.tm.keep hc (fun _ _ h => h), h.sg.keep hc (fun _ _ h => h), h.dn, h.d8, h.ns, h.tn, h.sn⟩

/-- Some bool; some number; a place in a list, or -1. -/
def SomeB (e : Ending) : Prop := ∃ b : Bool, e = .returned (.bool b)
def SomeI (e : Ending) : Prop := ∃ k : Int, e = .returned (.int .i64 k)
def SomeAt (n : Nat) (e : Ending) : Prop := ∃ k : Int, e = .returned (.int .i64 k) ∧ (k = -1 ∨ ∃ j : Nat, k = j ∧ j < n)

set_option maxHeartbeats 2000000 in
set_option maxRecDepth 20000 in
theorem has_any (s : StV) (nm : ByteArray) (w : World) (h : StOk w s) : Calls Tryz.prog 97 #[s.val, .string nm] w fun e w' => SomeB e ∧ Chg (fun _ => False) w w' := by
  unfold StV.val StV.row
  have bx := BoxAt.new w 78 #[.int .i64 s.id, .int .i64 s.ver, .int .i64 s.tm, .int .i64 s.cl, .bool s.ca, .slice s.D s.dl.length s.dc, .slice s.N s.nl.length s.nc, .slice s.T s.tl.length s.tc, .slice s.S s.sl.length s.sc]
  have hc0 : Chg (fun _ => False) w (w.alloc (.cells #[.int .i64 s.id, .int .i64 s.ver, .int .i64 s.tm, .int .i64 s.cl, .bool s.ca, .slice s.D s.dl.length s.dc, .slice s.N s.nl.length s.nc, .slice s.T s.tl.length s.tc, .slice s.S s.sl.length s.sc] 78)) := (Chg.refl _ _).alloc _
  have HO := Lib.hid h
  clear h
  go_enter Tryz.func97, Tryz.ntmps97
  go_wp2_with fail
  obtain ⟨w1, hw1⟩ : ∃ w1, w1 = w.alloc (.cells #[.int .i64 s.id, .int .i64 s.ver, .int .i64 s.tm, .int .i64 s.cl, .bool s.ca, .slice s.D s.dl.length s.dc, .slice s.N s.nl.length s.nc, .slice s.T s.tl.length s.tc, .slice s.S s.sl.length s.sc] 78) := ⟨_, rfl⟩
  rw [← hw1] at bx hc0 ⊢
  clear hw1
  have q8 : w1.cell? ⟨w.heap.size, 8, none⟩ = some (.slice s.S s.sl.length s.sc) := bx.cell 8 rfl
  go_loopw [5] (fun i w' => ∃ j : Nat, j ≤ s.sl.length ∧ i = .int .i64 j ∧ w' = w1) (fun i _ => s.sl.length - (intOf i).toNat)
  case atStart => exact ⟨0, by omega, rfl, rfl⟩
  case round =>
    obtain ⟨j, hj, rfl, rfl⟩ := hrel
    have hb := HO.out.sn
    by_cases hjn : j < s.sl.length
    · have hr := (HO.out.sg).keep hc0 (fun _ _ h => h)
      obtain ⟨b, o, hA, _⟩ := hr.at_ (k := 0) (by rw [sgC_len]; omega)
      have hp := sgC_get s.sl j hjn
      have c0 := hr.cells hA _ _ hp.1
      have j0 : (0 : Int) ≤ (j : Int) := by omega
      have j1 : (j : Int) < (s.sl.length : Int) := by omega
      rw [hA] at q8
      clear hp hr
      go_wp2_with fail
      all_goals first
        | (go_ret; exact ⟨⟨_, rfl⟩, hc0⟩)
        | skip
      all_goals
        go_roundw
        case rel => exact ⟨j + 1, by omega, by go_num, by first | rfl | trivial⟩
        case measure => simp [intOf]; omega
    · have j1 : ¬ (j : Int) < (s.sl.length : Int) := by omega
      go_wp2_with fail
      go_ret
      exact ⟨⟨_, rfl⟩, hc0⟩

set_option maxHeartbeats 2000000 in
set_option maxRecDepth 20000 in
theorem timer_any (s : StV) (nm : ByteArray) (w : World) (h : StOk w s) : Calls Tryz.prog 105 #[s.val, .string nm] w fun e w' => SomeAt s.tl.length e ∧ Chg (fun _ => False) w w' := by
  unfold StV.val StV.row
  have bx := BoxAt.new w 78 #[.int .i64 s.id, .int .i64 s.ver, .int .i64 s.tm, .int .i64 s.cl, .bool s.ca, .slice s.D s.dl.length s.dc, .slice s.N s.nl.length s.nc, .slice s.T s.tl.length s.tc, .slice s.S s.sl.length s.sc]
  have hc0 : Chg (fun _ => False) w (w.alloc (.cells #[.int .i64 s.id, .int .i64 s.ver, .int .i64 s.tm, .int .i64 s.cl, .bool s.ca, .slice s.D s.dl.length s.dc, .slice s.N s.nl.length s.nc, .slice s.T s.tl.length s.tc, .slice s.S s.sl.length s.sc] 78)) := (Chg.refl _ _).alloc _
  have HO := Lib.hid h
  clear h
  go_enter Tryz.func105, Tryz.ntmps105
  go_wp2_with fail
  obtain ⟨w1, hw1⟩ : ∃ w1, w1 = w.alloc (.cells #[.int .i64 s.id, .int .i64 s.ver, .int .i64 s.tm, .int .i64 s.cl, .bool s.ca, .slice s.D s.dl.length s.dc, .slice s.N s.nl.length s.nc, .slice s.T s.tl.length s.tc, .slice s.S s.sl.length s.sc] 78) := ⟨_, rfl⟩
  rw [← hw1] at bx hc0 ⊢
  clear hw1
  have q7 : w1.cell? ⟨w.heap.size, 7, none⟩ = some (.slice s.T s.tl.length s.tc) := bx.cell 7 rfl
  go_loopw [5] (fun i w' => ∃ j : Nat, j ≤ s.tl.length ∧ i = .int .i64 j ∧ w' = w1) (fun i _ => s.tl.length - (intOf i).toNat)
  case atStart => exact ⟨0, by omega, rfl, rfl⟩
  case round =>
    obtain ⟨j, hj, rfl, rfl⟩ := hrel
    have hb := HO.out.tn
    by_cases hjn : j < s.tl.length
    · have hr := (HO.out.tm).keep hc0 (fun _ _ h => h)
      obtain ⟨b, o, hA, _⟩ := hr.at_ (k := 0) (by rw [tmC_len]; omega)
      have hp := tmC_get s.tl j hjn
      have c0 := hr.cells hA _ _ hp.1
      have j0 : (0 : Int) ≤ (j : Int) := by omega
      have j1 : (j : Int) < (s.tl.length : Int) := by omega
      rw [hA] at q7
      clear hp hr
      go_wp2_with fail
      all_goals first
        | (go_ret; exact ⟨⟨_, rfl, .inr ⟨j, rfl, hjn⟩⟩, hc0⟩)
        | skip
      all_goals
        go_roundw
        case rel => exact ⟨j + 1, by omega, by go_num, by first | rfl | trivial⟩
        case measure => simp [intOf]; omega
    · have j1 : ¬ (j : Int) < (s.tl.length : Int) := by omega
      go_wp2_with fail
      go_ret
      exact ⟨⟨_, rfl, .inl rfl⟩, hc0⟩

set_option maxHeartbeats 2000000 in
set_option maxRecDepth 20000 in
theorem count_any (s : StV) (st : Int) (w : World) (h : StOk w s) : Calls Tryz.prog 100 #[s.val, .int .i64 st] w fun e w' => SomeI e ∧ Chg (fun _ => False) w w' := by
  unfold StV.val StV.row
  have bx := BoxAt.new w 78 #[.int .i64 s.id, .int .i64 s.ver, .int .i64 s.tm, .int .i64 s.cl, .bool s.ca, .slice s.D s.dl.length s.dc, .slice s.N s.nl.length s.nc, .slice s.T s.tl.length s.tc, .slice s.S s.sl.length s.sc]
  have hc0 : Chg (fun _ => False) w (w.alloc (.cells #[.int .i64 s.id, .int .i64 s.ver, .int .i64 s.tm, .int .i64 s.cl, .bool s.ca, .slice s.D s.dl.length s.dc, .slice s.N s.nl.length s.nc, .slice s.T s.tl.length s.tc, .slice s.S s.sl.length s.sc] 78)) := (Chg.refl _ _).alloc _
  have HO := Lib.hid h
  clear h
  go_enter Tryz.func100, Tryz.ntmps100
  go_wp2_with fail
  obtain ⟨w1, hw1⟩ : ∃ w1, w1 = w.alloc (.cells #[.int .i64 s.id, .int .i64 s.ver, .int .i64 s.tm, .int .i64 s.cl, .bool s.ca, .slice s.D s.dl.length s.dc, .slice s.N s.nl.length s.nc, .slice s.T s.tl.length s.tc, .slice s.S s.sl.length s.sc] 78) := ⟨_, rfl⟩
  rw [← hw1] at bx hc0 ⊢
  clear hw1
  have q6 : w1.cell? ⟨w.heap.size, 6, none⟩ = some (.slice s.N s.nl.length s.nc) := bx.cell 6 rfl
  go_loopw [5, 6] (fun u i w' => ∃ (j : Nat) (v : Int), u = .int .i64 v ∧ 0 ≤ v ∧ v ≤ j ∧ j ≤ s.nl.length ∧ i = .int .i64 j ∧ w' = w1) (fun _ i _ => s.nl.length - (intOf i).toNat)
  case atStart => exact ⟨0, 0, rfl, by omega, by omega, by omega, rfl, rfl⟩
  case round =>
    obtain ⟨j, v, rfl, hv0, hvj, hj, rfl, rfl⟩ := hrel
    have h8 := HO.out.d8
    have e1 : IntKind.i64.wrap (v + 1) = v + 1 := IntWalk.i64_in _ (by have := HO.out.dn; omega)
    have hb := HO.out.dn
    by_cases hjn : j < s.nl.length
    · have hr := (HO.out.nd).keep hc0 (fun _ _ h => h)
      obtain ⟨b, o, hA, _⟩ := hr.at_ (k := 0) (by rw [ndC_len]; omega)
      have hp := ndC_get s.nl j hjn
      have c0 := hr.cells hA _ _ hp.1
      have j0 : (0 : Int) ≤ (j : Int) := by omega
      have j1 : (j : Int) < (s.nl.length : Int) := by omega
      rw [hA] at q6
      clear hp hr
      go_wp2_with fail
      all_goals
        go_roundw
        case rel => first | exact ⟨j + 1, v + 1, rfl, by omega, by omega, by omega, by go_num, by first | rfl | trivial⟩ | exact ⟨j + 1, v, rfl, by omega, by omega, by omega, by go_num, by first | rfl | trivial⟩
        case measure => simp [intOf]; omega
    · have j1 : ¬ (j : Int) < (s.nl.length : Int) := by omega
      go_wp2_with fail
      go_ret
      exact ⟨⟨_, rfl⟩, hc0⟩

end Go.Proofs.YtngfimjbgopgjaaGreatDoor

/- Contracts of cutoverref11's met, Ready, order. -/
namespace Go.Proofs.YtngfimjbgopgjaaGreatDoor
open Go.RowKit
set_option linter.unusedVariables false

/-- Needs that are not negative, not too many. -/
def NsOk (d : Df) : Prop := d.ns.length ≤ 255 ∧ ∀ n ∈ d.ns, 0 ≤ n
set_option maxHeartbeats 2000000 in
set_option maxRecDepth 20000 in
theorem met_any (d : Df) (A : Option Addr) (c : Nat) (bs : List Bool) (w : World) (hd : Rd w d.A (d.ns.map (Value.int .i64))) (hb : Rd w A (bs.map Value.bool)) (hns : NsOk d) (hbl : bs.length ≤ 1048576) :
    Calls Tryz.prog 106 #[.agg #[.slice d.A d.ns.length d.c, .int .i64 d.tr, .int .i64 d.le], .slice A bs.length c] w fun e w' => SomeB e ∧ Chg (fun _ => False) w w' := by
  have bx := BoxAt.new w 85 #[.slice d.A d.ns.length d.c, .int .i64 d.tr, .int .i64 d.le]
  have hc0 : Chg (fun _ => False) w (w.alloc (.cells #[.slice d.A d.ns.length d.c, .int .i64 d.tr, .int .i64 d.le] 85)) := (Chg.refl _ _).alloc _
  have HD := Lib.hid (hd.keep hc0 (fun _ _ h => h))
  have HB := Lib.hid (hb.keep hc0 (fun _ _ h => h))
  have hl := hns.1
  have HN := Lib.hid hns.2
  clear hd hb hns
  go_enter Tryz.func106, Tryz.ntmps106
  go_wp2_with fail
  obtain ⟨w1, hw1⟩ : ∃ w1, w1 = w.alloc (.cells #[.slice d.A d.ns.length d.c, .int .i64 d.tr, .int .i64 d.le] 85) := ⟨_, rfl⟩
  rw [← hw1] at bx hc0 HD HB ⊢
  clear hw1
  have q0 := bx.cell 0 rfl
  go_loopw [5] (fun i w' => ∃ j : Nat, j ≤ d.ns.length ∧ i = .int .i64 j ∧ w' = w1) (fun i _ => d.ns.length - (intOf i).toNat)
  case atStart => exact ⟨0, by omega, rfl, rfl⟩
  case round =>
    obtain ⟨j, hj, rfl, rfl⟩ := hrel
    by_cases hjn : j < d.ns.length
    · obtain ⟨b, o, hA, hq⟩ := HD.out.at_ (k := j) (by rw [List.length_map]; exact hjn)
      rw [List.getElem_map] at hq
      have hx0 := HN.out d.ns[j] (List.getElem_mem hjn)
      obtain ⟨x, hx⟩ : ∃ x, x = d.ns[j] := ⟨_, rfl⟩
      rw [← hx] at hq hx0
      clear hx
      rw [hA] at q0
      have j0 : (0 : Int) ≤ (j : Int) := by omega
      have j1 : (j : Int) < (d.ns.length : Int) := by omega
      obtain ⟨m, rfl⟩ : ∃ m : Nat, x = (m : Int) := ⟨x.toNat, by omega⟩
      by_cases hm : (bs.length : Int) ≤ (m : Int)
      · have f1 : decide ((bs.length : Int) ≤ (m : Int)) = true := by simpa using hm
        go_wp2_with fail
        go_ret
        exact ⟨⟨_, rfl⟩, hc0⟩
      · have hml : m < bs.length := by omega
        have f1 : decide ((bs.length : Int) ≤ (m : Int)) = false := by simpa using hm
        have m1 : (m : Int) < (bs.length : Int) := by omega
        obtain ⟨b', o', hA', hq'⟩ := HB.out.at_ (k := m) (by rw [List.length_map]; exact hml)
        rw [List.getElem_map] at hq'
        obtain ⟨v, hv⟩ : ∃ v, v = bs[m] := ⟨_, rfl⟩
        rw [← hv] at hq'
        clear hv
        rw [hA']
        cases v
        · go_wp2_with fail
          go_ret
          exact ⟨⟨_, rfl⟩, hc0⟩
        · go_wp2_with fail
          go_roundw
          case rel => exact ⟨j + 1, by omega, by go_num, by first | rfl | trivial⟩
          case measure => simp [intOf]; omega
    · have j1 : ¬ (j : Int) < (d.ns.length : Int) := by omega
      go_wp2_with fail
      go_ret
      exact ⟨⟨_, rfl⟩, hc0⟩

/-- Some places of a list, in memory of one's own. -/
def SomeIs (n : Nat) (w : World) (e : Ending) (w' : World) : Prop := ∃ (D : Option Addr) (dn dc : Nat) (l : List Int), e = .returned (.slice D dn dc) ∧ l.length = dn ∧ dn ≤ n ∧ (∀ x ∈ l, 0 ≤ x ∧ x < n) ∧ w'.ownsRow w.heap.size 3 1 (.slice D dn dc) dn (l.map (Value.int .i64)) ∧ Chg (fun _ => False) w w'

set_option maxHeartbeats 4000000 in
set_option maxRecDepth 20000 in
theorem ready_any (D : Option Addr) (dc : Nat) (dl : List Df) (A : Option Addr) (c : Nat) (bs : List Bool) (w : World) (hD : RdDf w D dl) (hd8 : dl.length ≤ 8) (hns : ∀ d ∈ dl, NsOk d) (hb : Rd w A (bs.map Value.bool)) (hbl : bs.length ≤ 1048576) :
    Calls Tryz.prog 104 #[.slice D dl.length dc, .slice A bs.length c] w (SomeIs dl.length w) := by
  obtain ⟨i1, ki, kz0, kz1, kz2⟩ := info_parts intInfo
  have HD := Lib.hid hD
  have HB := Lib.hid hb
  have HN := Lib.hid hns
  obtain ⟨base, hbase⟩ : ∃ base, base = w.heap.size := ⟨_, rfl⟩
  have HBS := Lib.hid hbase
  clear hD hb hns hbase
  go_enter Tryz.func104, Tryz.ntmps104
  go_wp2_with fail
  go_loopw [5, 6] (fun out i w' => ∃ (j m : Nat) (O : Option Addr) (oc : Nat) (l : List Int), j ≤ dl.length ∧ m ≤ j ∧ i = .int .i64 j ∧ out = .slice O m oc ∧ l.length = m ∧ (∀ x ∈ l, 0 ≤ x ∧ x < dl.length) ∧ w'.ownsRow base 3 1 (.slice O m oc) m (l.map (Value.int .i64)) ∧ Chg (fun _ => False) w w') (fun _ i _ => dl.length - (intOf i).toNat)
  case atStart => exact ⟨0, 0, none, 0, [], by omega, by omega, rfl, rfl, rfl, (fun x hx => by cases hx), World.ownsRow_nil _ _ _ _, Chg.refl _ _⟩
  case round =>
    obtain ⟨j, m, O, oc, l, hj, hm, rfl, rfl, hl, hlb, ho, hc⟩ := hrel
    have HL := Lib.hid hl
    have HLB := Lib.hid hlb
    clear hl hlb
    by_cases hjn : j < dl.length
    · have hrk := HD.out.still hc
      obtain ⟨b, o, rfl, _⟩ := hrk.rd.at_ (k := 0) (by rw [dfC_len]; omega)
      obtain ⟨p0, p1, p2⟩ := dfC_get dl j hjn
      have r0 := hrk.rd.cells rfl _ _ p0
      have r1 := hrk.rd.cells rfl _ _ p1
      have r2 := hrk.rd.cells rfl _ _ p2
      rw [← Nat.add_assoc] at r1 r2
      have hdn := hrk.ns dl[j] (List.getElem_mem _)
      have hok := HN.out dl[j] (List.getElem_mem _)
      obtain ⟨d, hd⟩ : ∃ d, d = dl[j] := ⟨_, rfl⟩
      rw [← hd] at r0 r1 r2 hdn hok
      clear hd p0 p1 p2
      have HOK := Lib.hid hok
      clear hok
      have hBr := HB.out.keep hc (fun _ _ h => h)
      have hmet := met_any d A c bs wr hdn hBr HOK.out hbl
      have j0 : (0 : Int) ≤ (j : Int) := by omega
      have j1 : (j : Int) < (dl.length : Int) := by omega
      have hl1 : m + 1 ≤ maxLen := by simp only [maxLen]; omega
      have hl2 : (m + 1) * 8 ≤ 140737488355328 := by omega
      have APP : ∀ w2, Chg (fun _ => False) wr w2 → w2.ownsRow base 3 1 (.slice O m oc) m (l.map (Value.int .i64)) ∧ base ≤ (w2.alloc (.cells #[.int .i64 (j : Int)] 3)).heap.size := fun w2 h2 => ⟨h2.own ho (fun _ _ h => h), by have h3 := hc.size; have h4 := h2.size; have h5 := HBS.out; simp; omega⟩
      have HAPP := Lib.hid APP
      clear APP
      go_upto_region 5 with fail
      go_cut [31] from 7 to 35 (fun v w' => (∃ b : Bool, v = .bool b) ∧ Chg (fun _ => False) wr w')
      case first =>
        by_cases hbj : (bs.length : Int) ≤ (j : Int)
        · have f1 : decide ((bs.length : Int) ≤ (j : Int)) = true := by simpa using hbj
          go_wp2_with (go_at_call 106; go_must (refine hmet.mono ?_; rintro e w2 ⟨⟨b, rfl⟩, hc2⟩))
          go_meet
          exact ⟨⟨_, rfl⟩, hc2⟩
        · have f1 : decide ((bs.length : Int) ≤ (j : Int)) = false := by simpa using hbj
          have j2 : (j : Int) < (bs.length : Int) := by omega
          obtain ⟨b', o', rfl, hq'⟩ := hBr.at_ (k := j) (by rw [List.length_map]; omega)
          rw [List.getElem_map] at hq'
          obtain ⟨v, hv⟩ : ∃ v, v = bs[j]'(by omega) := ⟨_, rfl⟩
          rw [← hv] at hq'
          clear hv
          cases v
          · go_wp2_with (go_at_call 106; go_must (refine hmet.mono ?_; rintro e w2 ⟨⟨b, rfl⟩, hc2⟩))
            go_meet
            exact ⟨⟨_, rfl⟩, hc2⟩
          · go_wp2_with (go_at_call 106; go_must (refine hmet.mono ?_; rintro e w2 ⟨⟨b, rfl⟩, hc2⟩))
            go_meet
            exact ⟨⟨_, rfl⟩, Chg.refl _ _⟩
      case rest =>
        obtain ⟨⟨v, rfl⟩, hc2⟩ := hcut
        obtain ⟨ho2, hba⟩ := HAPP.out wc hc2
        cases v
        · go_wp2_with fail
          go_roundw
          case rel => exact ⟨j + 1, m, O, oc, l, by omega, by omega, by go_num, rfl, HL.out, HLB.out, ho2, hc.trans hc2 (fun x hx => hx.elim)⟩
          case measure => simp [intOf]; omega
        · go_wp2_with (at_builtin; refine wpList_append_rd _ rfl (.tmp 32) (.tmp 34) 81 rfl base 3 i1 _ 1 8 Tryz.underlying81 ki kz0 kz1 kz2 rfl (by decide) O m oc (l.map (Value.int .i64)) rfl (World.ownsRow.alloc ho2 _) (some ⟨wc.heap.size, 0, none⟩) 1 1 ([(j : Int)].map (Value.int .i64)) rfl rfl (Rd.newRow wc _ _ _ rfl) (ints_one _) hl1 hl2 hba ?_; intro A7 c7 w7 hown7 hg7 hb7; have hc7 : Chg (In O) wc w7 := ((Chg.refl _ wc).alloc _).trans hg7 (fun x hx => .inl hx))
          go_roundw
          case rel => exact ⟨j + 1, m + 1, A7, c7, l ++ [(j : Int)], by omega, by omega, by go_num, rfl, by rw [List.length_append, HL.out]; rfl, (fun x hx => by
            rcases List.mem_append.1 hx with hx | hx
            · exact HLB.out x hx
            · simp only [List.mem_singleton] at hx; subst hx; omega), by rw [List.map_append]; exact hown7, (hc.trans hc2 (fun x hx => hx.elim)).trans hc7 (fun x hx => .inr (by have h1 := (own_lt ho hx).1; have h2 := HBS.out; omega))⟩
          case measure => simp [intOf]; omega
    · have j1 : ¬ (j : Int) < (dl.length : Int) := by omega
      go_wp2_with fail
      go_ret
      exact ⟨O, m, oc, l, rfl, HL.out, by omega, HLB.out, by rw [← HBS.out]; exact ho, hc⟩
end Go.Proofs.YtngfimjbgopgjaaGreatDoor
