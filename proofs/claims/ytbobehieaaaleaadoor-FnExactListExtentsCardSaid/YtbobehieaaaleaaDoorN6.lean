/- Walks: the texts XeM X2 X3 SDelta DelM X4 X6 StG X1 X7 X5 as one text. -/
import Derived.Test.YtbobehieaaaleaaDoorN5
import Derived.Test.YtbobehieaaaleaaDoorW3
import Derived.Test.YtbobehieaaaleaaDoorShelf
import Derived.Test.YtbobehieaaaleaaDoorMem2
import Derived.Test.YtbobehieaaaleaaDoorW60
import Derived.Test.YtbobehieaaaleaaDoorPut
import Derived.Test.YtbobehieaaaleaaDoorMem4
import Derived.Test.YtbobehieaaaleaaDoorW2
import Derived.Deep.DeepMust
import Derived.StillTailTactics
import Derived.OpenShut
import Derived.Test.YtbobehieaaaleaaDoorMark
import Derived.Lib.SmallJoins
import Derived.Test.YtbobehieaaaleaaDoorUnpM
import Derived.Lib.LazyBuf
import Derived.Lib.Strings
import Derived.Deep.RegionLaw
import Derived.Deep.RegionWith
import Derived.Deep.DeepCutAuto
import Derived.Deep.QuietTactic
import Derived.Test.YtbobehieaaaleaaDoorW61
import Derived.Test.YtbobehieaaaleaaDoorSInt64
import Derived.Lib.QuietBelow
import Derived.Test.YtbobehieaaaleaaDoorQB
namespace Go.Proofs.YtbobehieaaaleaaDoor
set_option linter.unusedVariables false
open Go.RowKit

theorem tr_nil (c : UInt8) : Lib.trimRightB [] c = [] := rfl
theorem tr_same (l : List UInt8) (c : UInt8) : Lib.trimRightB (l ++ [c]) c = Lib.trimRightB l c := by simp [Lib.trimRightB]
theorem tr_else (l : List UInt8) {x c : UInt8} (h : ¬ x = c) : Lib.trimRightB (l ++ [x]) c = l ++ [x] := by simp [Lib.trimRightB, h]
theorem tr_len (l : List UInt8) (c : UInt8) : (Lib.trimRightB l c).length ≤ l.length := by
  unfold Lib.trimRightB
  rw [List.length_reverse]
  have := (List.dropWhile_sublist (fun x => x == c) (l := l.reverse)).length_le
  rw [List.length_reverse] at this
  exact this
def trB (s : ByteArray) (c : UInt8) : ByteArray := ⟨(Lib.trimRightB s.data.toList c).toArray⟩
theorem trB_size (s : ByteArray) (c : UInt8) : (trB s c).size ≤ s.size := by
  have := tr_len s.data.toList c
  rw [Array.length_toList] at this
  show (Lib.trimRightB s.data.toList c).toArray.size ≤ s.size
  rw [List.size_toArray]
  exact this
theorem last_list (s : ByteArray) (m : Nat) (h : s.size = m + 1) : s.data.toList = (s.extract 0 m).data.toList ++ [s[m]] := by
  have h1 : (s.extract 0 m).data.toList = s.data.toList.take m := by simp [ByteArray.data_extract]
  have h2 : s.data.toList.length = m + 1 := by rw [Array.length_toList]; exact h
  rw [h1]
  apply List.ext_getElem
  · simp [h2]
  · intro i hi1 hi2
    by_cases hi : i < m
    · rw [List.getElem_append_left (by simp; omega), List.getElem_take]
    · have : i = m := by omega
      subst this
      rw [List.getElem_append_right (by simp; omega)]
      simp only [List.getElem_singleton]
      rfl

/-- A row with numbers in a stretch of it. -/
def spl (q : Nat) (f : Nat → UInt8) (i : Nat) (R : List UInt8) : List UInt8 := R.take q ++ (List.range i).map f ++ R.drop (q + i)
theorem spl_0 (q : Nat) (f : Nat → UInt8) (R : List UInt8) : spl q f 0 R = R := by simp [spl]
theorem spl_len {q i : Nat} {f : Nat → UInt8} {R : List UInt8} (h : q + i ≤ R.length) : (spl q f i R).length = R.length := by
  simp only [spl, List.length_append, List.length_take, List.length_map, List.length_range, List.length_drop]
  omega
theorem spl_step {q i : Nat} {f : Nat → UInt8} {R : List UInt8} (h : q + i < R.length) : (spl q f i R).set (q + i) (f i) = spl q f (i + 1) R := by
  have h1 : (R.take q ++ (List.range i).map f).length = q + i := by simp; omega
  unfold spl
  rw [List.set_append_right _ _ (by omega), h1, Nat.sub_self, List.drop_eq_getElem_cons h, List.set_cons_zero, List.range_succ, List.map_append, List.map_singleton, ← List.append_assoc (R.take q), List.append_assoc _ [f i]]
  rfl
/-- An entry. -/
structure XE where
  st : Int
  nm : ByteArray
  nu : Int
  tl : Int
  bl : List Int
def xe0 : XE := ⟨0, ⟨#[]⟩, 0, 0, []⟩
def gb (B : List UInt8) (k : Nat) : Nat := (B.getD k 0).toNat
def xNm (B : List UInt8) : ByteArray := trB ⟨((B.drop 1).take 8).toArray⟩ 32
def xBl (B : List UInt8) (m : Nat) : List Int := ((B.drop 12).take m).map fun b => (b.toNat : Int)
/-- What stands in the bytes of an entry. -/
def xeR (B : List UInt8) : XE := if gb B 0 = 0 then xe0 else ⟨(gb B 0 : Int), xNm B, (gb B 9 : Int), (gb B 10 : Int), xBl B (min (gb B 11) 4)⟩
def xV (s : Int) (e : XE) : Bool := decide (e.st = 0) || ((decide (e.st = 1) || decide (e.st = 229)) && isName e.nm && inB e.nu 0 31 && inB e.tl 0 s)
def nmC (nm : ByteArray) (i : Nat) : UInt8 := if i < nm.size then nm.data.toList.getD i 0 else 32
def blC (bl : List Int) (i : Nat) : UInt8 := UInt8.ofNat (bl.getD i 0).toNat
def z16 : List UInt8 := List.replicate 16 0
/-- The bytes of an entry. -/
def xB (e : XE) : List UInt8 := if e.st = 0 then z16 else spl 12 (blC e.bl) e.bl.length ((((spl 1 (nmC e.nm) 8 (z16.set 0 (UInt8.ofNat e.st.toNat))).set 9 (UInt8.ofNat e.nu.toNat)).set 10 (UInt8.ofNat e.tl.toNat)).set 11 (UInt8.ofNat e.bl.length))
def xeOk (s : Int) (B : List UInt8) : Bool := xV s (xeR B) && decide (xB (xeR B) = B)
def xeE (s : Int) (B : List UInt8) : XE := if xeOk s B then xeR B else xe0
/-- What a list of blocks is good for. -/
def okBl (bl : List Int) : Prop := bl.length ≤ 4 ∧ ∀ b ∈ bl, 0 ≤ b ∧ b ≤ 255
theorem xBl_ok (B : List UInt8) (m : Nat) (h : m ≤ 4) : okBl (xBl B m) := by
  refine ⟨by simp [xBl]; omega, fun b hb => ?_⟩
  simp only [xBl, List.mem_map] at hb
  obtain ⟨y, _, rfl⟩ := hb
  have := y.toNat_lt
  omega
theorem xeR_ok (B : List UInt8) : okBl (xeR B).bl ∧ (xeR B).nm.size ≤ 8 ∧ 0 ≤ (xeR B).st ∧ (xeR B).st ≤ 255 ∧ 0 ≤ (xeR B).nu ∧ (xeR B).nu ≤ 255 ∧ 0 ≤ (xeR B).tl ∧ (xeR B).tl ≤ 255 ∧ ((xeR B).st = 0 → xeR B = xe0) := by
  unfold xeR
  split
  · exact ⟨⟨by decide, by simp [xe0]⟩, by decide, by decide, by decide, by decide, by decide, by decide, by decide, fun _ => rfl⟩
  · rename_i h
    have hb : ∀ k, gb B k ≤ 255 := fun k => by have := (B.getD k 0).toNat_lt; unfold gb; omega
    have h0 := hb 0
    have h9 := hb 9
    have h10 := hb 10
    refine ⟨xBl_ok B _ (by omega), ?_, by simp only; omega, by simp only; omega, by simp only; omega, by simp only; omega, by simp only; omega, by simp only; omega, fun e => absurd e (by simp only; omega)⟩
    have := trB_size ⟨((B.drop 1).take 8).toArray⟩ 32
    have h8 : (⟨((B.drop 1).take 8).toArray⟩ : ByteArray).size ≤ 8 := by
      show ((B.drop 1).take 8).toArray.size ≤ 8
      rw [List.size_toArray, List.length_take]
      omega
    show (xNm B).size ≤ 8
    unfold xNm
    omega
/-- The bytes of entry k of a disk. -/
def xRaw (J : List UInt8) (s k : Nat) : List UInt8 := (J.drop (s + 16 * k)).take 16
theorem xRaw_len {J : List UInt8} {s k : Nat} (h : s + 16 * (k + 1) ≤ J.length) : (xRaw J s k).length = 16 := by
  simp only [xRaw, List.length_take, List.length_drop]
  omega
theorem xRaw_get {J : List UInt8} {s k j : Nat} (h : s + 16 * (k + 1) ≤ J.length) (hj : j < 16) : (xRaw J s k)[j]'(by rw [xRaw_len h]; exact hj) = J[s + 16 * k + j]'(by omega) := by
  simp only [xRaw, List.getElem_take, List.getElem_drop]
theorem gb_get {B : List UInt8} {k : Nat} (h : k < B.length) : gb B k = B[k].toNat := by simp [gb, h]
/-- Blocks of one size: the byte at a place. -/
theorem jn_at : ∀ (l : List ByteArray) (s : Nat), (∀ b ∈ l, b.size = s) → ∀ (a r : Nat) (ha : a < l.length) (hr : r < s), ∃ h : r < l[a].size, (jn l)[a * s + r]? = some (l[a][r])
  | [], s, _, a, r, ha, _ => absurd ha (by simp)
  | b :: l, s, hs, 0, r, _, hr => by
    have hb := hs b List.mem_cons_self
    have hl : b.data.toList.length = s := by rw [Array.length_toList]; exact hb
    refine ⟨by show r < b.size; omega, ?_⟩
    rw [Nat.zero_mul, Nat.zero_add]
    show ((b.data.toList) ++ jn l)[r]? = _
    rw [List.getElem?_append_left (by omega), List.getElem?_eq_getElem (by omega)]
    rfl
  | b :: l, s, hs, a + 1, r, ha, hr => by
    have hb := hs b List.mem_cons_self
    have hl : b.data.toList.length = s := by rw [Array.length_toList]; exact hb
    obtain ⟨h1, h2⟩ := jn_at l s (fun x hx => hs x (List.mem_cons_of_mem _ hx)) a r (by simpa using ha) hr
    refine ⟨h1, ?_⟩
    show ((b.data.toList) ++ jn l)[(a + 1) * s + r]? = _
    rw [List.getElem?_append_right (by rw [hl, Nat.succ_mul]; omega), hl, show (a + 1) * s + r - s = a * s + r by rw [Nat.succ_mul]; omega]
    exact h2
end Go.Proofs.YtbobehieaaaleaaDoor
namespace Go.Proofs.YtbobehieaaaleaaDoor
set_option linter.unusedVariables false
open Go.RowKit

theorem xV_0 (s : Int) : xV s xe0 = true := rfl
theorem xV_k {s : Int} {e : XE} (h0 : ¬ e.st = 0) (h1 : (e.st == 1) = false) (h2 : (e.st == 229) = false) : xV s e = false := by
  have a : ¬ e.st = 1 := by simpa using h1
  have b : ¬ e.st = 229 := by simpa using h2
  simp [xV, h0, a, b]
theorem xV_n {s : Int} {e : XE} (h0 : ¬ e.st = 0) (h : isName e.nm = false) : xV s e = false := by simp [xV, h0, h]
theorem xV_q1 {s : Int} {e : XE} (h0 : ¬ e.st = 0) (h : inB e.nu 0 31 = false) : xV s e = false := by simp [xV, h0, h]
theorem xV_q2 {s : Int} {e : XE} (h0 : ¬ e.st = 0) (h : inB e.tl 0 s = false) : xV s e = false := by simp [xV, h0, h]
theorem xV_yes {s : Int} {e : XE} (hk : (e.st == 1) = true ∨ ((e.st == 1) = false ∧ (e.st == 229) = true)) (hn : isName e.nm = true) (h1 : inB e.nu 0 31 = true) (h2 : inB e.tl 0 s = true) : xV s e = true := by
  have : e.st = 1 ∨ e.st = 229 := by
    rcases hk with h | h
    · exact Or.inl (by simpa using h)
    · exact Or.inr (by simpa using h.2)
  rcases this with a | a <;> simp [xV, a, hn, h1, h2]
set_option maxRecDepth 100000 in
set_option maxHeartbeats 4000000 in
theorem l17Valid_any (g cp : Nat) (e : XE) (A : Option Addr) (s : Int) (w : World) (d : CP w g [.int .i64 e.st, .string e.nm, .int .i64 e.nu, .int .i64 e.tl, .slice A e.bl.length cp]) (hr : RR w 1 A e.bl.length (flat fI e.bl)) (hb : okBl e.bl) (hnm : e.nm.size ≤ 8) (hz : e.st = 0 → e = xe0) :
    Calls Tryd.prog 50 #[.pointer (some ⟨g, 0, none⟩), .int .i64 s] w fun r w' => r = .returned (.bool (xV s e)) ∧ Below w.heap.size w w' := by
  have d0 : (_ : Option Value) = some (.int .i64 e.st) := d 0 (by simp)
  have d1 : (_ : Option Value) = some (.string e.nm) := d 1 (by simp)
  have d2 : (_ : Option Value) = some (.int .i64 e.nu) := d 2 (by simp)
  have d3 : (_ : Option Value) = some (.int .i64 e.tl) := d 3 (by simp)
  have d4 : (_ : Option Value) = some (.slice A e.bl.length cp) := d 4 (by simp)
  clear d
  by_cases h0 : e.st = 0
  · obtain rfl := hz h0
    have hem : ((⟨#[]⟩ : ByteArray).toList == []) = true := by rw [ByteArray.toList_eq]; rfl
    have HR := Lib.hid (xV_0 s)
    simp only [xe0, List.length_nil] at d0 d1 d2 d3 d4
    clear hz h0 hr hb hnm
    go_enter Tryd.func50, Tryd.ntmps50
    go_wp2
    go_ret
    exact ⟨ret_bool HR.out.symm, (by repeat (first | exact Below.refl _ _ | refine below_step ?_ (by assumption) | assumption | refine Below.drew ?_ | refine below_drewN ?_ _ | refine below_alloc ?_ _ | refine Below.setCell ?_ (by simp; try omega) _))⟩
  obtain ⟨hb4, hbb⟩ := hb
  have h0b : (e.st == 0) = false := by simpa using h0
  have hv := fun (v : Bool) => (show xV s e = v → xV s e = v from id)
  have V0 := fun h1 h2 => xV_k (s := s) h0 h1 h2
  have V1 := fun h => xV_n (s := s) h0 h
  have V2 := fun h => xV_q1 (s := s) h0 h
  have V3 := fun h => xV_q2 (s := s) h0 h
  have V4 := fun hk hn h1 h2 => xV_yes (s := s) (e := e) hk hn h1 h2
  obtain ⟨st, nm, nu, tl, bl⟩ := e
  simp only at d0 d1 d2 d3 d4 hr hb4 hbb hnm h0b V0 V1 V2 V3 V4 ⊢
  generalize xV s ⟨st, nm, nu, tl, bl⟩ = R at V0 V1 V2 V3 V4 ⊢
  have hin := fun x (hx : x ∈ bl) W => (show Calls Tryd.prog 16 #[.int .i64 x, .int .i64 0, .int .i64 255] W fun e w' => e = .returned (.bool true) ∧ W = w' by
    have := l00In_any x 0 255 W
    rwa [show inB x 0 255 = true by simp only [inB, Bool.and_eq_true, decide_eq_true_eq]; exact hbb x hx] at this)
  have hna := fun W => spec_IsName_any nm W (by omega)
  have hi1 := fun W => l00In_any nu 0 31 W
  have hi2 := fun W => l00In_any tl 0 s W
  clear hv hz h0 hbb
  replace V0 := Lib.hid V0
  replace V1 := Lib.hid V1
  replace V2 := Lib.hid V2
  replace V3 := Lib.hid V3
  replace V4 := Lib.hid V4
  go_enter Tryd.func50, Tryd.ntmps50
  go_wp2_with fail
  go_loop [5] (fun i => ∃ k : Nat, k ≤ bl.length ∧ i = .int .i64 (k : Int)) (fun i => bl.length - (intOf i).toNat)
  case atStart => exact ⟨0, Nat.zero_le _, rfl⟩
  case round =>
    obtain ⟨k, hk, rfl⟩ := hrel
    by_cases hlt : k < bl.length
    · have hd : decide ((k : Int) < (bl.length : Int)) = true := decide_eq_true (by omega)
      have hlti : (k : Int) < (bl.length : Int) := by omega
      obtain ⟨b, off, rfl, hbk, hcc⟩ := Rd.at_ hr fI_len rfl k hlt
      have hc0 := hcc 0 _ (by omega) rfl
      clear hcc
      simp only [Nat.mul_one, Nat.add_zero] at hc0
      have hmem := List.getElem_mem hlt
      obtain ⟨x, hx⟩ : ∃ x, bl[k] = x := ⟨_, rfl⟩
      rw [hx] at hc0 hmem
      have hiw := hin x hmem
      clear hin hx
      go_wp2_with (go_at_call 16; (with_reducible refine (hiw _).mono ?_); rintro r w9 ⟨rfl, rfl⟩)
      go_round
      case rel => exact ⟨k + 1, by omega, by go_num⟩
      case measure => simp [intOf]; omega
    · have hd : decide ((k : Int) < (bl.length : Int)) = false := decide_eq_false (by omega)
      have h4 : decide ((bl.length : Int) ≤ 4) = true := decide_eq_true (by omega)
      clear hin
      cases b1 : (st == 1)
      · cases b2 : (st == 229)
        · have HR := Lib.hid (V0.out b1 b2)
          go_wp2_with fail
          go_ret
          exact ⟨ret_bool HR.out.symm, (by repeat (first | exact Below.refl _ _ | refine below_step ?_ (by assumption) | assumption | refine Below.drew ?_ | refine below_drewN ?_ _ | refine below_alloc ?_ _ | refine Below.setCell ?_ (by simp; try omega) _))⟩
        · have hk3 : (st == 1) = true ∨ ((st == 1) = false ∧ (st == 229) = true) := Or.inr ⟨b1, b2⟩
          cases n1 : isName nm
          · have HR := Lib.hid (V1.out n1)
            rw [n1] at hna
            clear V0 V1 V2 V3 V4 hk3 n1
            go_wp2_with (go_at_call 61; (with_reducible refine (hna _).mono ?_); rintro r w9 ⟨rfl, rfl⟩)
            go_ret
            exact ⟨ret_bool HR.out.symm, (by repeat (first | exact Below.refl _ _ | refine below_step ?_ (by assumption) | assumption | refine Below.drew ?_ | refine below_drewN ?_ _ | refine below_alloc ?_ _ | refine Below.setCell ?_ (by simp; try omega) _))⟩
          rw [n1] at hna
          cases q1 : inB nu 0 31
          · have HR := Lib.hid (V2.out q1)
            rw [q1] at hi1
            clear V0 V1 V2 V3 V4 hk3 n1 q1
            go_wp2_with (first | (go_at_call 61; (with_reducible refine (hna _).mono ?_); rintro r w9 ⟨rfl, rfl⟩) | (go_at_call 16; (with_reducible refine (hi1 _).mono ?_); rintro r w9 ⟨rfl, rfl⟩))
            go_ret
            exact ⟨ret_bool HR.out.symm, (by repeat (first | exact Below.refl _ _ | refine below_step ?_ (by assumption) | assumption | refine Below.drew ?_ | refine below_drewN ?_ _ | refine below_alloc ?_ _ | refine Below.setCell ?_ (by simp; try omega) _))⟩
          rw [q1] at hi1
          cases q2 : inB tl 0 s
          · have HR := Lib.hid (V3.out q2)
            rw [q2] at hi2
            clear V0 V1 V2 V3 V4 hk3 n1 q1 q2
            go_wp2_with (first | (go_at_call 61; (with_reducible refine (hna _).mono ?_); rintro r w9 ⟨rfl, rfl⟩) | (go_at_call 16; (with_reducible refine (hi1 _).mono ?_); rintro r w9 ⟨rfl, rfl⟩) | (go_at_call 16; (with_reducible refine (hi2 _).mono ?_); rintro r w9 ⟨rfl, rfl⟩))
            go_ret
            exact ⟨ret_bool HR.out.symm, (by repeat (first | exact Below.refl _ _ | refine below_step ?_ (by assumption) | assumption | refine Below.drew ?_ | refine below_drewN ?_ _ | refine below_alloc ?_ _ | refine Below.setCell ?_ (by simp; try omega) _))⟩
          rw [q2] at hi2
          have HR := Lib.hid (V4.out hk3 n1 q1 q2)
          clear V0 V1 V2 V3 V4 hk3 n1 q1 q2
          go_wp2_with (first | (go_at_call 61; (with_reducible refine (hna _).mono ?_); rintro r w9 ⟨rfl, rfl⟩) | (go_at_call 16; (with_reducible refine (hi1 _).mono ?_); rintro r w9 ⟨rfl, rfl⟩) | (go_at_call 16; (with_reducible refine (hi2 _).mono ?_); rintro r w9 ⟨rfl, rfl⟩))
          go_ret
          exact ⟨ret_bool HR.out.symm, (by repeat (first | exact Below.refl _ _ | refine below_step ?_ (by assumption) | assumption | refine Below.drew ?_ | refine below_drewN ?_ _ | refine below_alloc ?_ _ | refine Below.setCell ?_ (by simp; try omega) _))⟩
      · have hk3 : (st == 1) = true ∨ ((st == 1) = false ∧ (st == 229) = true) := Or.inl b1
        cases n1 : isName nm
        · have HR := Lib.hid (V1.out n1)
          rw [n1] at hna
          clear V0 V1 V2 V3 V4 hk3 n1
          go_wp2_with (go_at_call 61; (with_reducible refine (hna _).mono ?_); rintro r w9 ⟨rfl, rfl⟩)
          go_ret
          exact ⟨ret_bool HR.out.symm, (by repeat (first | exact Below.refl _ _ | refine below_step ?_ (by assumption) | assumption | refine Below.drew ?_ | refine below_drewN ?_ _ | refine below_alloc ?_ _ | refine Below.setCell ?_ (by simp; try omega) _))⟩
        rw [n1] at hna
        cases q1 : inB nu 0 31
        · have HR := Lib.hid (V2.out q1)
          rw [q1] at hi1
          clear V0 V1 V2 V3 V4 hk3 n1 q1
          go_wp2_with (first | (go_at_call 61; (with_reducible refine (hna _).mono ?_); rintro r w9 ⟨rfl, rfl⟩) | (go_at_call 16; (with_reducible refine (hi1 _).mono ?_); rintro r w9 ⟨rfl, rfl⟩))
          go_ret
          exact ⟨ret_bool HR.out.symm, (by repeat (first | exact Below.refl _ _ | refine below_step ?_ (by assumption) | assumption | refine Below.drew ?_ | refine below_drewN ?_ _ | refine below_alloc ?_ _ | refine Below.setCell ?_ (by simp; try omega) _))⟩
        rw [q1] at hi1
        cases q2 : inB tl 0 s
        · have HR := Lib.hid (V3.out q2)
          rw [q2] at hi2
          clear V0 V1 V2 V3 V4 hk3 n1 q1 q2
          go_wp2_with (first | (go_at_call 61; (with_reducible refine (hna _).mono ?_); rintro r w9 ⟨rfl, rfl⟩) | (go_at_call 16; (with_reducible refine (hi1 _).mono ?_); rintro r w9 ⟨rfl, rfl⟩) | (go_at_call 16; (with_reducible refine (hi2 _).mono ?_); rintro r w9 ⟨rfl, rfl⟩))
          go_ret
          exact ⟨ret_bool HR.out.symm, (by repeat (first | exact Below.refl _ _ | refine below_step ?_ (by assumption) | assumption | refine Below.drew ?_ | refine below_drewN ?_ _ | refine below_alloc ?_ _ | refine Below.setCell ?_ (by simp; try omega) _))⟩
        rw [q2] at hi2
        have HR := Lib.hid (V4.out hk3 n1 q1 q2)
        clear V0 V1 V2 V3 V4 hk3 n1 q1 q2
        go_wp2_with (first | (go_at_call 61; (with_reducible refine (hna _).mono ?_); rintro r w9 ⟨rfl, rfl⟩) | (go_at_call 16; (with_reducible refine (hi1 _).mono ?_); rintro r w9 ⟨rfl, rfl⟩) | (go_at_call 16; (with_reducible refine (hi2 _).mono ?_); rintro r w9 ⟨rfl, rfl⟩))
        go_ret
        exact ⟨ret_bool HR.out.symm, (by repeat (first | exact Below.refl _ _ | refine below_step ?_ (by assumption) | assumption | refine Below.drew ?_ | refine below_drewN ?_ _ | refine below_alloc ?_ _ | refine Below.setCell ?_ (by simp; try omega) _))⟩
end Go.Proofs.YtbobehieaaaleaaDoor
namespace Go.Proofs.YtbobehieaaaleaaDoor
set_option linter.unusedVariables false
open Go.RowKit

theorem mark_zero (w : World) (n : Nat) (e : TypeId) : MarkB (w.alloc (.cells (madeCells #[Value.int .u8 0] n) e)) w.heap.size e (List.replicate n 0) := by
  have hm := made_bytes n
  refine ⟨madeCells #[Value.int .u8 0] n, (0, 0), heap_alloc_new w _, fun j hj => ?_, fun j hj => by omega⟩
  have h1 : (madeCells #[Value.int .u8 0] n).toList[j]? = (bcells (List.replicate n (0 : UInt8)))[j]? := by
    have : (madeCells (Value.int .u8 0).cells n).toList = (madeCells #[Value.int .u8 0] n).toList := rfl
    rw [← this, hm]
  rw [Array.getElem?_toList] at h1
  rw [h1, List.getElem?_eq_getElem (by rw [bcells_length]; exact hj)]
  simp [bcells]
theorem z16_len : z16.length = 16 := by decide
theorem byte_of {x : Int} (h0 : 0 ≤ x) (h1 : x ≤ 255) : ((UInt8.ofNat x.toNat).toNat : Int) = x := by
  rw [UInt8.toNat_ofNat']
  omega
theorem nmC_in {nm : ByteArray} {i : Nat} (h : i < nm.size) : nmC nm i = nm[i] := by
  unfold nmC
  rw [if_pos h, List.getD_eq_getElem?_getD, List.getElem?_eq_getElem (by rw [Array.length_toList]; exact h)]
  rfl
theorem nmC_out {nm : ByteArray} {i : Nat} (h : ¬ i < nm.size) : nmC nm i = 32 := if_neg h
theorem blC_in {bl : List Int} {i : Nat} (h : i < bl.length) : blC bl i = UInt8.ofNat (bl[i]).toNat := by simp [blC, h]
theorem xB_0 : xB xe0 = z16 := by unfold xB; exact if_pos rfl
theorem xB_1 {e : XE} (h : ¬ e.st = 0) : xB e = spl 12 (blC e.bl) e.bl.length ((((spl 1 (nmC e.nm) 8 (z16.set 0 (UInt8.ofNat e.st.toNat))).set 9 (UInt8.ofNat e.nu.toNat)).set 10 (UInt8.ofNat e.tl.toNat)).set 11 (UInt8.ofNat e.bl.length)) := by
  unfold xB
  rw [if_neg h]
set_option maxRecDepth 100000 in
set_option maxHeartbeats 8000000 in
theorem l17Bytes_any (g cp : Nat) (e : XE) (A : Option Addr) (w : World) (d : CP w g [.int .i64 e.st, .string e.nm, .int .i64 e.nu, .int .i64 e.tl, .slice A e.bl.length cp]) (hr : RR w 1 A e.bl.length (flat fI e.bl)) (hb : okBl e.bl) (hnm : e.nm.size ≤ 8) (hz : e.st = 0 → e = xe0) (hst : 0 ≤ e.st ∧ e.st ≤ 255) (hnu : 0 ≤ e.nu ∧ e.nu ≤ 255) (htl : 0 ≤ e.tl ∧ e.tl ≤ 255) :
    Calls Tryd.prog 51 #[.pointer (some ⟨g, 0, none⟩)] w fun r w' => ∃ G c, r = .returned (.slice (some ⟨G, 0, none⟩) 16 c) ∧ 16 ≤ c ∧ w.heap.size ≤ G ∧ MarkB w' G 5 (xB e) ∧ BB w w' := by
  have hmk := fun W => eltB.make 16 (by omega) (by omega) W
  simp only [Nat.mul_one, show (Value.int .u8 0).cells = #[Value.int .u8 0] from rfl, Int.cast_ofNat_Int] at hmk
  have M0 := mark_zero w 16 5
  have hB0 : BB w (w.alloc (.cells (madeCells #[Value.int .u8 0] 16) 5)) := BB.al (BB.start w) _
  have D0 := CP.al d (.cells (madeCells #[Value.int .u8 0] 16) 5)
  by_cases h0 : e.st = 0
  · obtain rfl := hz h0
    have d0 : (_ : Option Value) = some (.int .i64 0) := D0 0 (by simp)
    clear hz hst hnu htl hb hr hnm D0 d h0
    go_enter Tryd.func51, Tryd.ntmps51
    go_wp2_with fail
    go_ret
    exact ⟨w.heap.size, 16, rfl, Nat.le_refl _, Nat.le_refl _, by rw [xB_0]; exact M0, hB0⟩
  have h0b : (e.st == 0) = false := by simpa using h0
  have HX := Lib.hid (xB_1 h0)
  obtain ⟨st, nm, nu, tl, bl⟩ := e
  simp only at hb hnm hst hnu htl h0b HX hr D0 ⊢
  generalize xB ⟨st, nm, nu, tl, bl⟩ = XB at HX ⊢
  have d0 : (_ : Option Value) = some (.int .i64 st) := D0 0 (by simp)
  have a0 := byte_of hst.1 hst.2
  have a1 := byte_of hnu.1 hnu.2
  have a2 := byte_of htl.1 htl.2
  obtain ⟨hb4, hbb⟩ := hb
  have w0 : IntKind.u8.wrap st = st := IntWalk.u8_in _ (by omega)
  have w1 : IntKind.u8.wrap nu = nu := IntWalk.u8_in _ (by omega)
  have w2 : IntKind.u8.wrap tl = tl := IntWalk.u8_in _ (by omega)
  have w3 : IntKind.u8.wrap (bl.length : Int) = (bl.length : Int) := IntWalk.u8_in _ (by omega)
  have a3 : ((UInt8.ofNat bl.length).toNat : Int) = (bl.length : Int) := by rw [UInt8.toNat_ofNat']; omega
  have hgl : g < w.heap.size := (cell_spot (d 0 (by simp))).2
  obtain ⟨R1, hR1⟩ : ∃ R, z16.set 0 (UInt8.ofNat st.toNat) = R := ⟨_, rfl⟩
  have hl1 : R1.length = 16 := by rw [← hR1, List.length_set, z16_len]
  have M1 := M0.set_ 0 (UInt8.ofNat st.toNat) st a0.symm
  rw [show (List.replicate 16 (0 : UInt8)) = z16 from rfl, hR1] at M1
  rw [hR1] at HX
  have c0 := M0.cell 0 (by decide)
  have f0 := M0.free 0 (by decide)
  have D1 := CP.put D0 (a := ⟨w.heap.size, 0, none⟩) (by show g ≠ w.heap.size; omega) (.int .u8 st)
  have hB1 : BB w _ := BB.put hB0 (a := ⟨w.heap.size, 0, none⟩) (Nat.le_refl _) (.int .u8 st)
  have i0 : (0 : Int) < 16 := by decide
  clear hz h0 hst hnu htl D0 d hR1
  go_enter Tryd.func51, Tryd.ntmps51
  go_wp2_with fail
  clear d0 c0 f0 hB0 M0 hmk i0
  have hws : (w.alloc (.cells ((madeCells #[Value.int .u8 0] 16).setIfInBounds 0 (.int .u8 st)) 5)) = ((w.alloc (.cells (madeCells #[Value.int .u8 0] 16) 5)).setCell ⟨w.heap.size, 0, none⟩ (.int .u8 st)) := by simp [go_sem]
  rw [← hws] at M1 D1 hB1
  clear hws
  generalize (w.alloc (.cells ((madeCells #[Value.int .u8 0] 16).setIfInBounds 0 (.int .u8 st)) 5)) = wA at M1 D1 hB1 ⊢
  obtain ⟨G, hG⟩ : ∃ G, w.heap.size = G := ⟨_, rfl⟩
  have hGle : w.heap.size ≤ G := Nat.le_of_eq hG
  have hgG : g ≠ G := by omega
  rw [hG] at M1
  have HG := Lib.hid hG
  simp only [hG]
  go_loopw [4] (fun i wr => ∃ k : Nat, k ≤ 8 ∧ i = .int .i64 (k : Int) ∧ MarkB wr G 5 (spl 1 (nmC nm) k R1) ∧ CP wr g [.int .i64 st, .string nm, .int .i64 nu, .int .i64 tl, .slice A bl.length cp] ∧ BB w wr) (fun i _ => 8 - (intOf i).toNat)
  case atStart => exact ⟨0, by omega, rfl, by rw [spl_0]; exact M1, D1, hB1⟩
  case round =>
    clear M1 D1 hB1
    obtain ⟨k, hk, rfl, M, D, hB⟩ := hrel
    have d1 : (_ : Option Value) = some (.string nm) := D 1 (by simp)
    by_cases hlt : k < 8
    · have hd : decide ((k : Int) < 8) = true := decide_eq_true (by omega)
      have hsl : (spl 1 (nmC nm) k R1).length = 16 := by rw [spl_len (by omega)]; exact hl1
      have hst := spl_step (q := 1) (i := k) (f := nmC nm) (R := R1) (by omega)
      generalize spl 1 (nmC nm) k R1 = R at M hsl hst
      have hj : 1 + k < R.length := by omega
      have hw : IntKind.i64.wrap (1 + (k : Int)) = ((1 + k : Nat) : Int) := by rw [IntWalk.i64_in _ (by omega)]; omega
      have hij : ((1 + k : Nat) : Int) < 16 := by omega
      have c1 := M.cell (1 + k) hj
      have f1 := M.free (1 + k) hj
      have M2 := M.set_ (1 + k) 32 32 rfl
      have D2 := CP.put D (a := ⟨G, 1 + k, none⟩) hgG (.int .u8 32)
      have d1' : (_ : Option Value) = some (.string nm) := D2 1 (by simp)
      have hj2 : 1 + k < (R.set (1 + k) 32).length := by rw [List.length_set]; exact hj
      have c2 := M2.cell (1 + k) hj2
      have f2 := M2.free (1 + k) hj2
      have hB2 : BB w _ := BB.put hB (a := ⟨G, 1 + k, none⟩) hGle (.int .u8 32)
      by_cases hkn : k < nm.size
      · have hdn : decide ((k : Int) < (nm.size : Int)) = true := decide_eq_true (by omega)
        have hki : (k : Int) < (nm.size : Int) := by omega
        have HN := Lib.hid (show (R.set (1 + k) 32).set (1 + k) nm[k] = spl 1 (nmC nm) (k + 1) R1 by rw [List.set_set, ← nmC_in hkn]; exact hst)
        have M3 := M2.set_ (1 + k) nm[k] _ rfl
        rw [HN.out] at M3
        have D3 := CP.put D2 (a := ⟨G, 1 + k, none⟩) hgG (.int .u8 (nm[k].toNat : Int))
        have hB3 : BB w _ := BB.put hB2 (a := ⟨G, 1 + k, none⟩) hGle (.int .u8 (nm[k].toNat : Int))
        clear hst HN
        go_wp2_with fail
        go_roundw
        case rel => exact ⟨k + 1, by omega, by go_num, M3, D3, hB3⟩
        case measure => simp [intOf]; omega
      · have hdn : decide ((k : Int) < (nm.size : Int)) = false := decide_eq_false (by omega)
        rw [nmC_out hkn] at hst
        rw [hst] at M2
        clear hst c2 f2 hj2
        go_wp2_with fail
        go_roundw
        case rel => exact ⟨k + 1, by omega, by go_num, M2, D2, hB2⟩
        case measure => simp [intOf]; omega
    · have hd : decide ((k : Int) < 8) = false := decide_eq_false (by omega)
      obtain rfl : k = 8 := by omega
      have hsl : (spl 1 (nmC nm) 8 R1).length = 16 := by rw [spl_len (by omega)]; exact hl1
      generalize spl 1 (nmC nm) 8 R1 = R at M hsl HX
      have d2 : (_ : Option Value) = some (.int .i64 nu) := D 2 (by simp)
      have c9 := M.cell 9 (by omega)
      have f9 := M.free 9 (by omega)
      have M9 := M.set_ 9 (UInt8.ofNat nu.toNat) nu a1.symm
      have D9 := CP.put D (a := ⟨G, 9, none⟩) hgG (.int .u8 nu)
      have hB9 : BB w _ := BB.put hB (a := ⟨G, 9, none⟩) hGle (.int .u8 nu)
      have d3 : (_ : Option Value) = some (.int .i64 tl) := D9 3 (by simp)
      have c10 := M9.cell 10 (by rw [List.length_set]; omega)
      have f10 := M9.free 10 (by rw [List.length_set]; omega)
      have M10 := M9.set_ 10 (UInt8.ofNat tl.toNat) tl a2.symm
      have D10 := CP.put D9 (a := ⟨G, 10, none⟩) hgG (.int .u8 tl)
      have hB10 : BB w _ := BB.put hB9 (a := ⟨G, 10, none⟩) hGle (.int .u8 tl)
      have d4 : (_ : Option Value) = some (.slice A bl.length cp) := D10 4 (by simp)
      have c11 := M10.cell 11 (by rw [List.length_set, List.length_set]; omega)
      have f11 := M10.free 11 (by rw [List.length_set, List.length_set]; omega)
      have M11 := M10.set_ 11 (UInt8.ofNat bl.length) (bl.length : Int) a3.symm
      have D11 := CP.put D10 (a := ⟨G, 11, none⟩) hgG (.int .u8 (bl.length : Int))
      have hB11 : BB w _ := BB.put hB10 (a := ⟨G, 11, none⟩) hGle (.int .u8 (bl.length : Int))
      have i9 : (9 : Int) < 16 := by decide
      have i10 : (10 : Int) < 16 := by decide
      have i11 : (11 : Int) < 16 := by decide
      go_wp2_with fail
      obtain ⟨R2, hR2⟩ : ∃ R2, ((R.set 9 (UInt8.ofNat nu.toNat)).set 10 (UInt8.ofNat tl.toNat)).set 11 (UInt8.ofNat bl.length) = R2 := ⟨_, rfl⟩
      have hl2 : R2.length = 16 := by rw [← hR2, List.length_set, List.length_set, List.length_set]; exact hsl
      rw [hR2] at M11 HX
      clear c9 f9 c10 f10 c11 f11 d1 d2 d3 d4 M9 M10 D9 D10 hB9 hB10 hR2 M D hB
      generalize (((wr.setCell ⟨G, 9, none⟩ (.int .u8 nu)).setCell ⟨G, 10, none⟩ (.int .u8 tl)).setCell ⟨G, 11, none⟩ (.int .u8 (bl.length : Int))) = wB at M11 D11 hB11 ⊢
      go_loopw [5] (fun i wr => ∃ k : Nat, k ≤ bl.length ∧ i = .int .i64 (k : Int) ∧ MarkB wr G 5 (spl 12 (blC bl) k R2) ∧ CP wr g [.int .i64 st, .string nm, .int .i64 nu, .int .i64 tl, .slice A bl.length cp] ∧ BB w wr) (fun i _ => bl.length - (intOf i).toNat)
      case atStart => exact ⟨0, Nat.zero_le _, rfl, by rw [spl_0]; exact M11, D11, hB11⟩
      case round =>
        clear M11 D11 hB11
        obtain ⟨k, hk, rfl, M, D, hB⟩ := hrel
        have d4 : (_ : Option Value) = some (.slice A bl.length cp) := D 4 (by simp)
        by_cases hlt : k < bl.length
        · have hd : decide ((k : Int) < (bl.length : Int)) = true := decide_eq_true (by omega)
          have hlti : (k : Int) < (bl.length : Int) := by omega
          have hsl : (spl 12 (blC bl) k R2).length = 16 := by rw [spl_len (by omega)]; exact hl2
          have hst := spl_step (q := 12) (i := k) (f := blC bl) (R := R2) (by omega)
          generalize spl 12 (blC bl) k R2 = R at M hsl hst
          have hj : 12 + k < R.length := by omega
          have hw : IntKind.i64.wrap (12 + (k : Int)) = ((12 + k : Nat) : Int) := by rw [IntWalk.i64_in _ (by omega)]; omega
          have hij : ((12 + k : Nat) : Int) < 16 := by omega
          obtain ⟨b, off, rfl, hbk, hcc⟩ := Rd.at_ (RR.back hr hB) fI_len rfl k hlt
          have hc0 := hcc 0 _ (by omega) rfl
          clear hcc
          simp only [Nat.mul_one, Nat.add_zero] at hc0
          have hmem := hbb _ (List.getElem_mem hlt)
          rw [blC_in hlt] at hst
          obtain ⟨x, hx⟩ : ∃ x, bl[k] = x := ⟨_, rfl⟩
          rw [hx] at hc0 hmem hst
          have wx : IntKind.u8.wrap x = x := IntWalk.u8_in _ (by omega)
          have ax := byte_of hmem.1 hmem.2
          have c1 := M.cell (12 + k) hj
          have f1 := M.free (12 + k) hj
          have M2 := M.set_ (12 + k) (UInt8.ofNat x.toNat) x ax.symm
          rw [hst] at M2
          have D2 := CP.put D (a := ⟨G, 12 + k, none⟩) hgG (.int .u8 x)
          have hB2 : BB w _ := BB.put hB (a := ⟨G, 12 + k, none⟩) hGle (.int .u8 x)
          clear hst hx ax
          go_wp2_with fail
          go_roundw
          case rel => exact ⟨k + 1, by omega, by go_num, M2, D2, hB2⟩
          case measure => simp [intOf]; omega
        · have hd : decide ((k : Int) < (bl.length : Int)) = false := decide_eq_false (by omega)
          obtain rfl : k = bl.length := by omega
          go_wp2_with fail
          go_ret
          exact ⟨G, 16, rfl, Nat.le_refl _, hGle, by rw [HX.out]; exact M, hB⟩
end Go.Proofs.YtbobehieaaaleaaDoor
namespace Go.Proofs.YtbobehieaaaleaaDoor
set_option linter.unusedVariables false
open Go.RowKit Go.ChangeShapes Go.WideShapes Go.Deep

structure DDelta where
  f0 : Int
  f1 : ByteArray
def fDelta (x : DDelta) : List Value := [.int .i64 x.f0, .string x.f1]
theorem fDelta_len (x : DDelta) : (fDelta x).length = 2 := rfl
def vDelta (x : DDelta) : Value := .agg #[.int .i64 x.f0, .string x.f1]
def zDelta (x : DDelta) : List Nat := [x.f1.size]
def okDelta (x : DDelta) : Prop := x.f1.size ≤ maxLen ∧ (-9223372036854775808 ≤ x.f0 ∧ x.f0 ≤ 9223372036854775807)

def tzDelta (l : List DDelta) : List Nat := l.length :: (l.map zDelta).flatten
theorem zDelta_drop (l : List DDelta) (k : Nat) (hk : k < l.length) : ((l.drop k).map zDelta).flatten = zDelta l[k] ++ ((l.drop (k + 1)).map zDelta).flatten := by
  rw [List.drop_eq_getElem_cons hk, List.map_cons, List.flatten_cons]
def mqDelta (q : Nat) : DDelta := ⟨(q : Int), mtxt (q + 1)⟩
def mksDelta (k m : Nat) : List DDelta := (List.range m).map fun i => mqDelta (k + 2 * i)
theorem mksDelta_len (k m : Nat) : (mksDelta k m).length = m := by simp [mksDelta]
theorem mksDelta_succ (k m : Nat) : mksDelta k (m + 1) = mksDelta k m ++ [mqDelta (k + 2 * m)] := by simp [mksDelta, List.range_succ]
theorem mksDelta_get (k m i : Nat) (h : i < (mksDelta k m).length) : (mksDelta k m)[i] = mqDelta (k + 2 * i) := by simp [mksDelta]
theorem mksDelta_put (k m : Nat) (l : List DDelta) (h : m < l.length) : putV (flat fDelta (mksDelta k m ++ l.drop m)) (m * 2) (fDelta (mqDelta (k + 2 * m))) = flat fDelta (mksDelta k (m + 1) ++ l.drop (m + 1)) := by
  have := flat_put fDelta 2 fDelta_len (mksDelta k m) (l.drop (m + 1)) l[m] (mqDelta (k + 2 * m))
  rw [mksDelta_len] at this
  rw [List.drop_eq_getElem_cons h, this, mksDelta_succ, List.append_assoc]
  rfl

end Go.Proofs.YtbobehieaaaleaaDoor
namespace Go.Proofs.YtbobehieaaaleaaDoor
set_option linter.unusedVariables false
open Go.RowKit

theorem seg_eq (s : ByteArray) (a b : Nat) : seg s a b = (s.data.toList.drop a).take (b - a) := by
  unfold seg
  rw [ByteArray.data_extract, Array.toList_extract]
theorem seg_take (s : ByteArray) (a b n : Nat) (h : a + n ≤ b) : (seg s a b).take n = seg s a (a + n) := by
  rw [seg_eq, seg_eq, List.take_take]
  congr 1
  omega
theorem seg_drop (s : ByteArray) (a b n : Nat) (h : a + n ≤ b) : (seg s a b).drop n = seg s (a + n) b := by
  rw [seg_eq, seg_eq, List.drop_take, List.drop_drop]
  congr 1
  omega
theorem seg_all (s : ByteArray) : seg s 0 s.size = s.data.toList := by
  rw [seg_eq, List.drop_zero, List.take_of_length_le]
  rw [Array.length_toList]
  exact Nat.le_refl _

theorem emp_yes (s : ByteArray) (h : s.size = 0) : s.toList.isEmpty = true ∧ s.toList = [] := by
  have : s.toList = [] := by
    rw [Lib.toList_data]
    exact List.eq_nil_of_length_eq_zero (by rw [Array.length_toList]; exact h)
  rw [this]
  exact ⟨rfl, rfl⟩
theorem emp_no (s : ByteArray) (h : ¬ s.size = 0) : s.toList.isEmpty = false ∧ ¬ s.toList = [] := by
  have : ¬ s.toList = [] := by
    rw [Lib.toList_data]
    intro h'
    have := congrArg List.length h'
    rw [Array.length_toList] at this
    exact h this
  exact ⟨by simpa using this, this⟩

/-- Put the list of differences on s, from byte at_ on, behind 'out'. -/
def apG (s : ByteArray) : List DDelta → Nat → List UInt8 → Option (List UInt8)
  | [], at_, out => some (out ++ seg s at_ s.size)
  | d :: r, at_, out =>
    if d.f1.size = 0 ∨ inB d.f0 at_ ((s.size : Int) - d.f1.size) = false then none
    else apG s r (d.f0.toNat + d.f1.size) (out ++ seg s at_ d.f0.toNat ++ d.f1.data.toList)
def apD (s : ByteArray) (l : List DDelta) : Option (List UInt8) := if 4096 < s.size then none else apG s l 0 []
theorem apD_big (s : ByteArray) (l : List DDelta) (h : 4096 < s.size) : apD s l = none := if_pos h
theorem apD_small (s : ByteArray) (l : List DDelta) (h : ¬ 4096 < s.size) : apG s (l.drop 0) 0 [] = apD s l := (if_neg h).symm
theorem apG_end (s : ByteArray) (l : List DDelta) (k at_ : Nat) (out : List UInt8) {R : Option (List UInt8)} (hk : ¬ k < l.length) (h : apG s (l.drop k) at_ out = R) : R = some (out ++ seg s at_ s.size) := by
  rw [List.drop_eq_nil_of_le (by omega)] at h
  exact h.symm
theorem apG_bad (s : ByteArray) (l : List DDelta) (k at_ : Nat) (out : List UInt8) {R : Option (List UInt8)} (hk : k < l.length) (hb : l[k].f1.size = 0 ∨ inB l[k].f0 at_ ((s.size : Int) - l[k].f1.size) = false) (h : apG s (l.drop k) at_ out = R) : R = none := by
  rw [List.drop_eq_getElem_cons hk, apG, if_pos hb] at h
  exact h.symm
theorem apG_go (s : ByteArray) (l : List DDelta) (k at_ : Nat) (out : List UInt8) {R : Option (List UInt8)} (hk : k < l.length) (h0 : ¬ l[k].f1.size = 0) (hb : inB l[k].f0 at_ ((s.size : Int) - l[k].f1.size) = true) (h : apG s (l.drop k) at_ out = R) :
    apG s (l.drop (k + 1)) (l[k].f0.toNat + l[k].f1.size) (out ++ seg s at_ l[k].f0.toNat ++ l[k].f1.data.toList) = R := by
  rw [List.drop_eq_getElem_cons hk, apG, if_neg (by simp [h0, hb])] at h
  exact h
theorem inB_in {x lo hi : Int} (h : inB x lo hi = true) : lo ≤ x ∧ x ≤ hi := by unfold inB at h; simpa using h
theorem apG_splice (s d : ByteArray) (at_ p : Nat) (out : List UInt8) (hl : out.length = at_) (h1 : at_ ≤ p) (h2 : p + d.size ≤ s.size) :
    (out ++ seg s at_ s.size).take p ++ d.data.toList ++ (out ++ seg s at_ s.size).drop (p + d.size) = (out ++ seg s at_ p ++ d.data.toList) ++ seg s (p + d.size) s.size := by
  have e1 : (out ++ seg s at_ s.size).take p = out ++ seg s at_ p := by
    rw [List.take_append, List.take_of_length_le (by omega), hl, seg_take s _ _ _ (by omega)]
    congr 2
    omega
  have e2 : (out ++ seg s at_ s.size).drop (p + d.size) = seg s (p + d.size) s.size := by
    rw [List.drop_append, List.drop_of_length_le (by omega), hl, seg_drop s _ _ _ (by omega), List.nil_append]
    congr 1
    omega
  rw [e1, e2]

def putL (l : List UInt8) : Nat → List UInt8 → List UInt8
  | _, [] => l
  | o, b :: r => putL (l.set o b) (o + 1) r
theorem putL_eq : ∀ (bs l : List UInt8) (o : Nat), o + bs.length ≤ l.length → putL l o bs = l.take o ++ bs ++ l.drop (o + bs.length)
  | [], l, o, _ => by simp [putL]
  | b :: r, l, o, h => by
    simp only [List.length_cons] at h
    have hlt : o < l.length := by omega
    rw [putL, putL_eq r _ _ (by rw [List.length_set]; omega), take_set_succ _ _ _ hlt, List.drop_set_of_lt (by omega)]
    simp only [List.append_assoc, List.cons_append, List.nil_append, List.length_cons]
    rw [show o + 1 + r.length = o + (r.length + 1) by omega]

section
variable {P : Program} {w : World} {e : TypeId}
theorem MarkB.setCells {g : Nat} : ∀ (bs : List UInt8) (o : Nat) (w : World) (l : List UInt8), MarkB w g e l → MarkB (w.setCells g o (bs.map fun x => Value.int .u8 (x.toNat : Int))) g e (putL l o bs)
  | [], _, _, _, h => h
  | b :: r, o, w, l, h => MarkB.setCells r (o + 1) _ _ (h.set_ o b _ rfl)
theorem setCells_other (g : Nat) : ∀ (vs : List Value) (o : Nat) (w : World) (q : Addr), q.block ≠ g → (w.setCells g o vs).cell? q = w.cell? q
  | [], _, _, _, _ => rfl
  | v :: r, o, w, q, h => (setCells_other g r (o + 1) _ q h).trans (World.cell?_setCell_other w _ q v (fun e => by subst e; exact h rfl))
theorem MarkB.copyS {g : Nat} {l : List UInt8} (hm : MarkB w g e l) (dT sT ty : TypeId) (E : Elt P dT e 1 1 (.int .u8 0)) (off : Nat) (str : ByteArray) (hfit : off + str.size ≤ l.length) (dLen dCap : Nat) (hle : str.size ≤ dLen) (B : Nat) (hB : B ≤ g) :
    ∃ w', (Builtin.copy_ #[dT, sT] ty #[.slice (some ⟨g, off, none⟩) dLen dCap, .string str]).run P w = .ok (goInt str.size) w' ∧
      MarkB w' g e (l.take off ++ str.data.toList ++ l.drop (off + str.size)) ∧ Below B w w' ∧ ∀ q : Addr, q.block ≠ g → w'.cell? q = w.cell? q := by
  obtain ⟨ht, ⟨i, hi, hz, hsize, hby⟩, hzs, hsz⟩ := E
  have hstr : str.data.toList.length = str.size := by rw [Array.length_toList]; rfl
  refine ⟨_, Go.run_copy_string (P := P) w dT sT ty e g off dLen dCap str ht (fun W => by simp [sizeOf, typeInfo, hi, hsize]) hle (fun j hj => ?_) (fun j hj => ?_), ?_, Go.below_setCells hB _ _ _ (Below.refl _ _), fun q hq => setCells_other g _ _ _ q hq⟩
  · rw [hm.cell (off + j) (by omega)]
    rfl
  · exact hm.free (off + j) (by omega)
  · have := MarkB.setCells str.data.toList off w l hm
    rw [putL_eq _ _ _ (by omega), hstr] at this
    exact this
theorem wpList_copyM {ops : Array Oper} {rest : List Oper} {o : Oper} {a : Act} {Q : Exit → Act → World → Prop} (hgd : o.guard = none) (d x : Operand) (t tx : TypeId)
    (ho : o.op = .call { callee := .builtin .copy, args := #[d, x], argTypes := #[t, tx] }) (E : Elt P t e 1 1 (.int .u8 0))
    {g : Nat} {l : List UInt8} (hm : MarkB w g e l) (off dLen dCap : Nat) (hd : a.eval d = .slice (some ⟨g, off, none⟩) dLen dCap) (str : ByteArray) (hx : a.eval x = .string str)
    (hfit : off + str.size ≤ l.length) (hle : str.size ≤ dLen) (B : Nat) (hB : B ≤ g)
    (h : ∀ w', MarkB w' g e (l.take off ++ str.data.toList ++ l.drop (off + str.size)) → Below B w w' → (∀ q : Addr, q.block ≠ g → w'.cell? q = w.cell? q) → wpList P ops Q rest (a.put o.dst (goInt str.size)) w') :
    wpList P ops Q (o :: rest) a w := by
  refine wpList_plain hgd fun K hK => ?_
  obtain ⟨w', hr, h2, h3, h4⟩ := hm.copyS (P := P) t tx o.type E off str hfit dLen dCap hle B hB
  unfold Oper.wp execOp
  simp only [ho, resolve, invoke, builtin, Sem.run_bind, Sem.run_pure, Result.andThen_ok, List.map_toArray, List.map_cons, List.map_nil, hd, hx, hr]
  exact hK _ _ (h w' h2 h3 h4)
end
end Go.Proofs.YtbobehieaaaleaaDoor
namespace Go.Proofs.YtbobehieaaaleaaDoor
set_option linter.unusedVariables false
open Go.RowKit

section
variable {P : Program} {e : TypeId} {w : World}
theorem run_copy_cut (w : World) (dT sT ty elem : TypeId) (b o dLen dCap : Nat) (t : ByteArray)
    (hu : P.underlying dT = some (.slice elem)) (hz : ∀ w, (Go.sizeOf elem).run P w = .ok 1 w) (hle : dLen ≤ t.size)
    (hc : ∀ j, j < dLen → (w.cell? ⟨b, o + j, none⟩).isSome = true) (hf : ∀ j, j < dLen → w.frozen? ⟨b, o + j, none⟩ = false) :
    (Builtin.copy_ #[dT, sT] ty #[.slice (some ⟨b, o, none⟩) dLen dCap, .string t]).run P w = .ok (goInt dLen) (w.setCells b o ((t.data.toList.take dLen).map fun x => Value.int .u8 (x.toNat : Int))) := by
  have hmin : Nat.min t.size dLen = dLen := Nat.min_eq_right hle
  have hl : ((t.data.toList.take dLen).map fun x => Value.int .u8 (x.toNat : Int)).length = dLen := by
    rw [List.length_map, List.length_take, ← Lib.size_eq]
    omega
  have hst := run_storeCells_cells (P := P) b o ((t.data.toList.take dLen).map fun x => Value.int .u8 (x.toNat : Int)) 0 w (by rw [hl]; simpa using hc) (by rw [hl]; simpa using hf) (by
    intro v hv
    obtain ⟨x, _, rfl⟩ := List.mem_map.1 hv
    rfl)
  simp [Builtin.copy_, run_underlying hu, Builtin.lenOf, Builtin.firstCells, hz, hmin]
  rw [← List.map_take, hst]
  rfl
theorem MarkB.copyC {g : Nat} {l : List UInt8} (hm : MarkB w g e l) (dT sT ty : TypeId) (E : Elt P dT e 1 1 (.int .u8 0)) (off : Nat) (str : ByteArray) (dLen dCap : Nat) (hfit : off + dLen ≤ l.length) (hle : dLen ≤ str.size) (B : Nat) (hB : B ≤ g) :
    ∃ w', (Builtin.copy_ #[dT, sT] ty #[.slice (some ⟨g, off, none⟩) dLen dCap, .string str]).run P w = .ok (goInt dLen) w' ∧
      MarkB w' g e (l.take off ++ str.data.toList.take dLen ++ l.drop (off + dLen)) ∧ Below B w w' ∧ ∀ q : Addr, q.block ≠ g → w'.cell? q = w.cell? q := by
  obtain ⟨ht, ⟨i, hi, hz, hsize, hby⟩, hzs, hsz⟩ := E
  have hstr : (str.data.toList.take dLen).length = dLen := by
    rw [List.length_take, Array.length_toList]
    exact Nat.min_eq_left hle
  refine ⟨_, run_copy_cut (P := P) w dT sT ty e g off dLen dCap str ht (fun W => by simp [sizeOf, typeInfo, hi, hsize]) hle (fun j hj => ?_) (fun j hj => ?_), ?_, Go.below_setCells hB _ _ _ (Below.refl _ _), fun q hq => setCells_other g _ _ _ q hq⟩
  · rw [hm.cell (off + j) (by omega)]
    rfl
  · exact hm.free (off + j) (by omega)
  · have := MarkB.setCells (str.data.toList.take dLen) off w l hm
    rw [putL_eq _ _ _ (by omega), hstr] at this
    exact this
theorem step_copyC {ops : Array Oper} {o : Oper} {a : Act} {K : Act → World → Prop} {Q : Exit → Act → World → Prop} {E0 : Prop} (hgd : o.guard = none) (d x : Operand) (t tx : TypeId)
    (ho : o.op = .call { callee := .builtin .copy, args := #[d, x], argTypes := #[t, tx] }) (E : Elt P t e 1 1 (.int .u8 0))
    {g : Nat} {l : List UInt8} (hm : MarkB w g e l) (off dLen dCap : Nat) (hd : a.eval d = .slice (some ⟨g, off, none⟩) dLen dCap) (str : ByteArray) (hx : a.eval x = .string str)
    (hfit : off + dLen ≤ l.length) (hle : dLen ≤ str.size) (B : Nat) (hB : B ≤ g)
    (h : ∀ w', MarkB w' g e (l.take off ++ str.data.toList.take dLen ++ l.drop (off + dLen)) → Below B w w' → (∀ q : Addr, q.block ≠ g → w'.cell? q = w.cell? q) → K (a.put o.dst (goInt dLen)) w') :
    if Region.wanted o (yielded ops a.tmps) = true then Oper.wp P o a w K Q else E0 := by
  have hw : Region.wanted o (yielded ops a.tmps) = true := by simp [Region.wanted, hgd]
  rw [if_pos hw]
  obtain ⟨w', hr, h2, h3, h4⟩ := hm.copyC (P := P) t tx o.type E off str dLen dCap hfit hle B hB
  unfold Oper.wp execOp
  simp only [ho, resolve, invoke, builtin, Sem.run_bind, Sem.run_pure, Result.andThen_ok, List.map_toArray, List.map_cons, List.map_nil, hd, hx, hr]
  exact h w' h2 h3 h4
end
/-- A name with eight spaces behind it. -/
theorem nm_pad {nm : ByteArray} (h : nm.size ≤ 8) {R : List UInt8} (hR : R.length = 16) : R.take 1 ++ (nm ++ ⟨#[32, 32, 32, 32, 32, 32, 32, 32]⟩).data.toList.take 8 ++ R.drop (1 + 8) = spl 1 (nmC nm) 8 R := by
  unfold spl
  congr 2
  have hl : nm.data.toList.length = nm.size := by rw [Array.length_toList]; rfl
  apply List.ext_getElem
  · simp [ByteArray.data_append, hl] <;> omega
  · intro i h1 h2
    have hi : i < 8 := by simpa using h2
    rw [List.getElem_take, List.getElem_map, List.getElem_range]
    have e1 : (nm ++ (⟨#[32, 32, 32, 32, 32, 32, 32, 32]⟩ : ByteArray)).data.toList = nm.data.toList ++ List.replicate 8 32 := by
      rw [ByteArray.data_append, Array.toList_append]
      rfl
    by_cases hn : i < nm.size
    · rw [nmC_in hn]
      simp only [e1]
      rw [List.getElem_append_left (by omega)]
      rfl
    · rw [nmC_out hn]
      simp only [e1]
      rw [List.getElem_append_right (by omega), List.getElem_replicate]
set_option maxRecDepth 100000 in
set_option maxHeartbeats 8000000 in
theorem putExtent_any (cp : Nat) (e : XE) (A : Option Addr) (w : World) (hr : RR w 1 A e.bl.length (flat fI e.bl)) (hb : okBl e.bl) (hnm : e.nm.size ≤ 8) (hz : e.st = 0 → e = xe0) (hst : 0 ≤ e.st ∧ e.st ≤ 255) (hnu : 0 ≤ e.nu ∧ e.nu ≤ 255) (htl : 0 ≤ e.tl ∧ e.tl ≤ 255) :
    Calls Tryd.prog 77 #[.agg #[.int .i64 e.st, .string e.nm, .int .i64 e.nu, .int .i64 e.tl, .slice A e.bl.length cp]] w fun r w' => ∃ G c, r = .returned (.slice (some ⟨G, 0, none⟩) 16 c) ∧ 16 ≤ c ∧ w.heap.size ≤ G ∧ MarkB w' G 5 (xB e) ∧ BB w w' := by
  have hmk := fun W => eltB.make 16 (by omega) (by omega) W
  simp only [Nat.mul_one, show (Value.int .u8 0).cells = #[Value.int .u8 0] from rfl, Int.cast_ofNat_Int] at hmk
  have M0 := mark_zero (w.alloc (.cells #[.int .i64 e.st, .string e.nm, .int .i64 e.nu, .int .i64 e.tl, .slice A e.bl.length cp] 59)) 16 5
  rw [World.size_alloc] at M0
  have hB0 : BB w ((w.alloc (.cells #[.int .i64 e.st, .string e.nm, .int .i64 e.nu, .int .i64 e.tl, .slice A e.bl.length cp] 59)).alloc (.cells (madeCells #[Value.int .u8 0] 16) 5)) := BB.al (BB.al (BB.start w) _) _
  have D0 := CP.al (CP.made w [.int .i64 e.st, .string e.nm, .int .i64 e.nu, .int .i64 e.tl, .slice A e.bl.length cp] 59) (.cells (madeCells #[Value.int .u8 0] 16) 5)
  by_cases h0 : e.st = 0
  · obtain rfl := hz h0
    have d0 : (_ : Option Value) = some (.int .i64 0) := D0 0 (by simp)
    clear hz hst hnu htl hb hr hnm D0 h0
    go_enter Tryd.func77, Tryd.ntmps77
    go_wp2_with fail
    go_ret
    exact ⟨w.heap.size + 1, 16, rfl, Nat.le_refl _, Nat.le_succ _, by rw [xB_0]; exact M0, hB0⟩
  have h0b : (e.st == 0) = false := by simpa using h0
  have HX := Lib.hid (xB_1 h0)
  obtain ⟨st, nm, nu, tl, bl⟩ := e
  simp only at hb hnm hst hnu htl h0b HX hr D0 M0 hB0 ⊢
  generalize xB ⟨st, nm, nu, tl, bl⟩ = XB at HX ⊢
  have d0 : (_ : Option Value) = some (.int .i64 st) := D0 0 (by simp)
  have a0 := byte_of hst.1 hst.2
  have a1 := byte_of hnu.1 hnu.2
  have a2 := byte_of htl.1 htl.2
  obtain ⟨hb4, hbb⟩ := hb
  have w0 : IntKind.u8.wrap st = st := IntWalk.u8_in _ (by omega)
  have w1 : IntKind.u8.wrap nu = nu := IntWalk.u8_in _ (by omega)
  have w2 : IntKind.u8.wrap tl = tl := IntWalk.u8_in _ (by omega)
  have w3 : IntKind.u8.wrap (bl.length : Int) = (bl.length : Int) := IntWalk.u8_in _ (by omega)
  have a3 : ((UInt8.ofNat bl.length).toNat : Int) = (bl.length : Int) := by rw [UInt8.toNat_ofNat']; omega
  obtain ⟨R1, hR1⟩ : ∃ R, z16.set 0 (UInt8.ofNat st.toNat) = R := ⟨_, rfl⟩
  have hl1 : R1.length = 16 := by rw [← hR1, List.length_set, z16_len]
  have M1 := M0.set_ 0 (UInt8.ofNat st.toNat) st a0.symm
  rw [show (List.replicate 16 (0 : UInt8)) = z16 from rfl, hR1] at M1
  rw [hR1] at HX
  have c0 := M0.cell 0 (by decide)
  have f0 := M0.free 0 (by decide)
  have D1 := CP.put D0 (a := ⟨w.heap.size + 1, 0, none⟩) (by show w.heap.size ≠ w.heap.size + 1; omega) (.int .u8 st)
  have hB1 : BB w _ := BB.put hB0 (a := ⟨w.heap.size + 1, 0, none⟩) (Nat.le_succ _) (.int .u8 st)
  have i0 : (0 : Int) < 16 := by decide
  clear hz h0 hst hnu htl D0 hR1
  go_enter Tryd.func77, Tryd.ntmps77
  go_upto_region 5 with fail
  clear d0 c0 f0 hB0 M0 hmk i0
  have hws : ((w.alloc (.cells #[.int .i64 st, .string nm, .int .i64 nu, .int .i64 tl, .slice A bl.length cp] 59)).alloc (.cells ((madeCells #[Value.int .u8 0] 16).setIfInBounds 0 (.int .u8 st)) 5)) = (((w.alloc (.cells #[.int .i64 st, .string nm, .int .i64 nu, .int .i64 tl, .slice A bl.length cp] 59)).alloc (.cells (madeCells #[Value.int .u8 0] 16) 5)).setCell ⟨w.heap.size + 1, 0, none⟩ (.int .u8 st)) := by simp [go_sem]
  rw [← hws] at M1 D1 hB1
  clear hws
  generalize ((w.alloc (.cells #[.int .i64 st, .string nm, .int .i64 nu, .int .i64 tl, .slice A bl.length cp] 59)).alloc (.cells ((madeCells #[Value.int .u8 0] 16).setIfInBounds 0 (.int .u8 st)) 5)) = wA at M1 D1 hB1 ⊢
  obtain ⟨G, hG⟩ : ∃ G, w.heap.size + 1 = G := ⟨_, rfl⟩
  have hGle : w.heap.size ≤ G := by omega
  have hgG : w.heap.size ≠ G := by omega
  simp only [hG] at M1 ⊢
  obtain ⟨g, hg⟩ : ∃ g, w.heap.size = g := ⟨_, rfl⟩
  have HG := Lib.hid hg
  rw [hg] at D1 hgG
  clear hG
  simp only [hg]
  have d1 : (_ : Option Value) = some (.string nm) := D1 1 (by simp)
  have hpad : (nm ++ (⟨#[32, 32, 32, 32, 32, 32, 32, 32]⟩ : ByteArray)).size = nm.size + 8 := by rw [ByteArray.size_append]; rfl
  have hno : ¬ 9223372036854775807 < nm.size + 8 := by omega
  have i1 : (1 : Nat) ≤ 9 := by decide
  have i9 : (9 : Nat) ≤ 16 := by decide
  have i16 : ¬ (16 : Nat) = 1 := by decide
  have Md : MarkB wA.drew G 5 R1 := M1
  have hpl : 8 ≤ (nm ++ (⟨#[32, 32, 32, 32, 32, 32, 32, 32]⟩ : ByteArray)).size := by omega
  go_region_law (refine step_copyC rfl (.tmp 17) (.tmp 20) 41 9 rfl eltB Md 1 8 15 rfl (nm ++ (⟨#[32, 32, 32, 32, 32, 32, 32, 32]⟩ : ByteArray)) rfl (by omega) hpl G (Nat.le_refl _) ?_; intro w5 M5 hb5 hoth5)
  have D5 : CP w5 g [.int .i64 st, .string nm, .int .i64 nu, .int .i64 tl, .slice A bl.length cp] := fun j hj => (hoth5 ⟨g, j, none⟩ hgG).trans (D1 j hj)
  have hB5 : BB w w5 := Below.trans (BB.dr hB1) (hb5.mono hGle)
  rw [nm_pad hnm hl1] at M5
  have hsl : (spl 1 (nmC nm) 8 R1).length = 16 := by rw [spl_len (by omega)]; exact hl1
  generalize spl 1 (nmC nm) 8 R1 = R at M5 hsl HX
  clear hoth5 hb5 Md M1 hB1 D1 d1 hpad hpl
  have d2 : (_ : Option Value) = some (.int .i64 nu) := D5 2 (by simp)
  have d3 : (_ : Option Value) = some (.int .i64 tl) := D5 3 (by simp)
  have d4 : (_ : Option Value) = some (.slice A bl.length cp) := D5 4 (by simp)
  have c9 := M5.cell 9 (by omega)
  have f9 := M5.free 9 (by omega)
  have M9 := M5.set_ 9 (UInt8.ofNat nu.toNat) nu a1.symm
  have D9 := CP.put D5 (a := ⟨G, 9, none⟩) hgG (.int .u8 nu)
  have hB9 : BB w _ := BB.put hB5 (a := ⟨G, 9, none⟩) hGle (.int .u8 nu)
  have d3' : (_ : Option Value) = some (.int .i64 tl) := D9 3 (by simp)
  have d4' : (_ : Option Value) = some (.slice A bl.length cp) := D9 4 (by simp)
  have c10 := M9.cell 10 (by rw [List.length_set]; omega)
  have f10 := M9.free 10 (by rw [List.length_set]; omega)
  have M10 := M9.set_ 10 (UInt8.ofNat tl.toNat) tl a2.symm
  have D10 := CP.put D9 (a := ⟨G, 10, none⟩) hgG (.int .u8 tl)
  have hB10 : BB w _ := BB.put hB9 (a := ⟨G, 10, none⟩) hGle (.int .u8 tl)
  have d4'' : (_ : Option Value) = some (.slice A bl.length cp) := D10 4 (by simp)
  have c11 := M10.cell 11 (by rw [List.length_set, List.length_set]; omega)
  have f11 := M10.free 11 (by rw [List.length_set, List.length_set]; omega)
  have M11 := M10.set_ 11 (UInt8.ofNat bl.length) (bl.length : Int) a3.symm
  have D11 := CP.put D10 (a := ⟨G, 11, none⟩) hgG (.int .u8 (bl.length : Int))
  have hB11 : BB w _ := BB.put hB10 (a := ⟨G, 11, none⟩) hGle (.int .u8 (bl.length : Int))
  have j9 : (9 : Int) < 16 := by decide
  have j10 : (10 : Int) < 16 := by decide
  have j11 : (11 : Int) < 16 := by decide
  obtain ⟨R2, hR2⟩ : ∃ R2, ((R.set 9 (UInt8.ofNat nu.toNat)).set 10 (UInt8.ofNat tl.toNat)).set 11 (UInt8.ofNat bl.length) = R2 := ⟨_, rfl⟩
  have hl2 : R2.length = 16 := by rw [← hR2, List.length_set, List.length_set, List.length_set]; exact hsl
  rw [hR2] at M11 HX
  clear hR2 M9 M10 D9 D10 hB9 hB10
  go_upto_region 6 with fail
  go_cut [22] (fun _ wx => MarkB wx G 5 R2 ∧ CP wx g [.int .i64 st, .string nm, .int .i64 nu, .int .i64 tl, .slice A bl.length cp] ∧ BB w wx)
  case first =>
    go_region_with (fail)
    all_goals
      go_wp2_with fail
      go_meet
      exact ⟨M11, D11, BB.dr hB11⟩
  case rest =>
    clear d2 d3 d4 d3' d4' d4'' c9 f9 c10 f10 c11 f11 M5 D5 hB5 M11 D11 hB11 hsl
    obtain ⟨M11, D11, hB11⟩ := hcut
    obtain ⟨wB, hwB⟩ : ∃ x, x = wc := ⟨_, rfl⟩
    subst hwB
    have d4 : (_ : Option Value) = some (.slice A bl.length cp) := D11 4 (by simp)
    go_wp2_with fail
    go_loopw [4, 5, 41] (fun _ _ i wr => ∃ k : Nat, k ≤ bl.length ∧ i = .int .i64 (k : Int) ∧ MarkB wr G 5 (spl 12 (blC bl) k R2) ∧ BB w wr) (fun _ _ i _ => bl.length - (intOf i).toNat)
    case atStart => exact ⟨0, Nat.zero_le _, rfl, by rw [spl_0]; exact M11, hB11⟩
    case round =>
      clear M11 D11 hB11 d4
      obtain ⟨k, hk, rfl, M, hB⟩ := hrel
      by_cases hlt : k < bl.length
      · have hlti : (k : Int) < (bl.length : Int) := by omega
        have hsl : (spl 12 (blC bl) k R2).length = 16 := by rw [spl_len (by omega)]; exact hl2
        have hst := spl_step (q := 12) (i := k) (f := blC bl) (R := R2) (by omega)
        generalize spl 12 (blC bl) k R2 = R at M hsl hst
        have hj : 12 + k < R.length := by omega
        obtain ⟨J, hJ⟩ : ∃ J, 12 + k = J := ⟨_, rfl⟩
        rw [hJ] at hst hj
        have hw : IntKind.i64.wrap (12 + (k : Int)) = (J : Int) := by rw [IntWalk.i64_in _ (by omega)]; omega
        have hij : (J : Int) < 16 := by omega
        obtain ⟨b, off, rfl, hbk, hcc⟩ := Rd.at_ (RR.back hr hB) fI_len rfl k hlt
        have hc0 := hcc 0 _ (by omega) rfl
        clear hcc
        simp only [Nat.mul_one, Nat.add_zero] at hc0
        have hmem := hbb _ (List.getElem_mem hlt)
        rw [blC_in hlt] at hst
        obtain ⟨x, hx⟩ : ∃ x, bl[k] = x := ⟨_, rfl⟩
        rw [hx] at hc0 hmem hst
        have wx : IntKind.u8.wrap x = x := IntWalk.u8_in _ (by omega)
        have ax := byte_of hmem.1 hmem.2
        have c1 := M.cell J hj
        have f1 := M.free J hj
        have M2 := M.set_ J (UInt8.ofNat x.toNat) x ax.symm
        rw [hst] at M2
        have hB2 : BB w _ := BB.put hB (a := ⟨G, J, none⟩) hGle (.int .u8 x)
        clear hst hx ax hJ
        go_wp2_with fail
        go_roundw
        case rel => exact ⟨k + 1, by omega, by go_num, M2, hB2⟩
        case measure => simp [intOf]; omega
      · have hlti : ¬ (k : Int) < (bl.length : Int) := by omega
        obtain rfl : k = bl.length := by omega
        go_wp2_with fail
        go_ret
        exact ⟨G, 16, rfl, Nat.le_refl _, by rw [← HG.out]; exact hGle, by rw [HX.out]; exact M, hB⟩
end Go.Proofs.YtbobehieaaaleaaDoor
namespace Go.Proofs.YtbobehieaaaleaaDoor
set_option linter.unusedVariables false
open Go.RowKit

theorem tk_step {P Q : List UInt8} {k : Nat} (h : P.take k = Q.take k) (hp : k < P.length) (hq : k < Q.length) (e : P[k] = Q[k]) : P.take (k + 1) = Q.take (k + 1) := by
  rw [List.take_succ_eq_append_getElem hp, List.take_succ_eq_append_getElem hq, h, e]
theorem bcells_at (P : List UInt8) (k : Nat) (h : k < P.length) : (bcells P)[k]'(by rw [bcells_length]; exact h) = .int .u8 (P[k].toNat : Int) := by simp [bcells]
theorem RR.byte {w : World} {A : Option Addr} {P : List UInt8} {n : Nat} (hr : RR w 1 A n (bcells P)) (hn : n = P.length) (k : Nat) (hk : k < P.length) : ∃ b off, A = some ⟨b, off, none⟩ ∧ b < w.heap.size ∧ w.cell? ⟨b, off + k, none⟩ = some (.int .u8 (P[k].toNat : Int)) := by
  obtain ⟨b, off, he, hb, hc⟩ := hr.2 (by omega)
  refine ⟨b, off, he, hb, ?_⟩
  rw [hc k (by rw [bcells_length]; exact hk), bcells_at]
set_option maxRecDepth 100000 in
set_option maxHeartbeats 1000000 in
theorem equalB_any (A A' : Option Addr) (cp cp' n : Nat) (P Q : List UInt8) (w : World) (hr : RR w 1 A n (bcells P)) (hr' : RR w 1 A' n (bcells Q)) (hp : P.length = n) (hq : Q.length = n) (hn : n ≤ 1048576) :
    Calls Tryd.prog 43 #[.slice A n cp, .slice A' n cp'] w fun e w' => e = .returned (.bool (decide (P = Q))) ∧ Below w.heap.size w w' := by
  go_enter Tryd.func43, Tryd.ntmps43
  go_wp2
  go_loopw [5, 13] (fun _ i wr => ∃ k : Nat, k ≤ n ∧ i = .int .i64 (k : Int) ∧ Hid (P.take k = Q.take k) ∧ BB w wr) (fun _ i _ => n - (intOf i).toNat)
  case atStart => exact ⟨0, Nat.zero_le _, rfl, Lib.hid rfl, BB.start w⟩
  case round =>
    obtain ⟨k, hk, rfl, HT, hB⟩ := hrel
    by_cases hlt : k < n
    · have hlti : (k : Int) < (n : Int) := by omega
      obtain ⟨b, off, rfl, hbb, hc1⟩ := RR.byte (RR.back hr hB) hp.symm k (by omega)
      obtain ⟨b', off', rfl, hbb', hc2⟩ := RR.byte (RR.back hr' hB) hq.symm k (by omega)
      have hkp : k < P.length := by omega
      have hkq : k < Q.length := by omega
      have hst := fun (e : P[k] = Q[k]) => tk_step HT.out hkp hkq e
      have hno : ¬ P[k] = Q[k] → decide (P = Q) = false := fun e => decide_eq_false (fun x => e (by subst x; rfl))
      obtain ⟨x, hx⟩ : ∃ x, P[k] = x := ⟨_, rfl⟩
      obtain ⟨y, hy⟩ : ∃ y, Q[k] = y := ⟨_, rfl⟩
      rw [hx] at hc1
      rw [hy] at hc2
      rw [hx, hy] at hno hst
      clear hx hy
      by_cases he : x = y
      · have HN := Lib.hid (hst he)
        have hxy : ((x.toNat : Int) != (y.toNat : Int)) = false := by subst he; simp
        clear hst hno he
        go_wp2_with fail
        go_quiet (fail)
        go_wp2_with fail
        go_roundw
        case rel => exact ⟨k + 1, by omega, by go_num, HN, BB.dn hB _⟩
        case measure => simp [intOf]; omega
      · have HN := Lib.hid (hno he)
        have hxy : ((x.toNat : Int) != (y.toNat : Int)) = true := by
          rw [bne_iff_ne]
          intro e
          exact he (UInt8.toNat_inj.1 (by omega))
        clear hst hno he
        go_wp2_with fail
        go_quiet (fail)
        go_wp2_with fail
        go_ret
        exact ⟨ret_bool HN.out.symm, BB.dn hB _⟩
    · have hlti : ¬ (k : Int) < (n : Int) := by omega
      have HN := Lib.hid (show decide (P = Q) = true by
        have h1 := HT.out
        rw [List.take_of_length_le (by omega), List.take_of_length_le (by omega)] at h1
        exact decide_eq_true h1)
      go_wp2_with fail
      go_ret
      exact ⟨ret_bool HN.out.symm, hB⟩
end Go.Proofs.YtbobehieaaaleaaDoor
namespace Go.Proofs.YtbobehieaaaleaaDoor
set_option linter.unusedVariables false
open Go.RowKit

section
variable {P : Program} {w : World} {base size bytes : Nat} {e : TypeId} {z v : Value} {α : Type} {f : α → List Value}
/-- append of one struct as a step of a region that draws its order; where the row may lie is told. -/
theorem step_appG {ops : Array Oper} {o : Oper} {a : Act} {K : Act → World → Prop} {Q : Exit → Act → World → Prop} {E0 : Prop} (hgd : o.guard = none) (s x : Operand) (t : TypeId)
    (ho : o.op = .call { callee := .builtin .append, args := #[s, x], argTypes := #[t, t] }) (E : Elt P t e size bytes z) (hby : bytes ≤ 1000)
    (v : Value) (l : List α) (n : Nat) (hln : n = l.length) (hsv : a.eval s = v) (hown : w.ownsRow base e size v n (flat f l)) (cs : Array Value) (te : TypeId) (y : α) (c : Nat) (hx : a.eval x = .slice (some ⟨w.heap.size, 0, none⟩) 1 c)
    (hcs : cs.toList = f y) (hlen : (f y).length = size) (h1 : ∀ u ∈ f y, u.oneCell' = true) (hsz : l.length ≤ 100000000) (hbase : base ≤ w.heap.size)
    (h : ∀ v' w', w'.ownsRow base e size v' (l ++ [y]).length (flat f (l ++ [y])) → (w.alloc (.cells cs te)).grownBy w' v.ownBlock → (v'.ownBlock = v.ownBlock ∨ v'.ownBlock = some (w.heap.size + 1)) → Below base w w' → K (a.put o.dst v') w') :
    if Region.wanted o (yielded ops a.tmps) = true then Oper.wp P o a (w.alloc (.cells cs te)) K Q else E0 := by
  subst hln
  have hw : Region.wanted o (yielded ops a.tmps) = true := by simp [Region.wanted, hgd]
  rw [if_pos hw]
  have hcl : cs.size = size := by rw [← Array.length_toList, hcs, hlen]
  have hbb : (l.length + 1) * bytes ≤ 140737488355328 := by
    have := Nat.mul_le_mul (show l.length + 1 ≤ 100000001 by omega) hby
    omega
  have hsrc : Src P size t (.slice (some ⟨w.heap.size, 0, none⟩) 1 c) 1 (f y) (w.alloc (.cells cs te)) := by
    rw [← hcs]
    refine Src.lit E.ht w cs te 1 c (by omega) ?_
    rw [hcs]
    exact h1
  obtain ⟨v', w', hr, h2, h3, h5⟩ := run_append_src (P := P) (w.alloc (.cells cs te)) base t t o.type e z size bytes E v l.length (flat f l) (World.ownsRow.alloc hown _) _ 1 (f y) hsrc (by unfold maxLen; omega) hbb (by rw [World.size_alloc]; omega)
  unfold Oper.wp execOp
  simp only [ho, resolve, invoke, builtin, Sem.run_bind, Sem.run_pure, Result.andThen_ok, List.map_toArray, List.map_cons, List.map_nil, hsv, hx, hr]
  refine h _ _ ?_ h3 (by simpa using h5) ((Below.refl base w).alloc hbase _ |>.trans (below_of_own (World.ownsRow.alloc hown _) (by rw [World.size_alloc]; omega) h3))
  rw [List.length_append, flat_snoc]
  exact h2
end
theorem oneInt (x : Int) : ∀ u ∈ fI x, u.oneCell' = true := by
  intro u hu
  simp only [fI, List.mem_cons, List.not_mem_nil, or_false] at hu
  subst hu
  rfl
def fB (b : UInt8) : List Value := [.int .u8 (b.toNat : Int)]
theorem fB_len (b : UInt8) : (fB b).length = 1 := rfl
theorem oneB (x : UInt8) : ∀ u ∈ fB x, u.oneCell' = true := by
  intro u hu
  simp only [fB, List.mem_cons, List.not_mem_nil, or_false] at hu
  subst hu
  rfl
theorem flatB : ∀ l : List UInt8, flat fB l = bcells l
  | [] => rfl
  | x :: l => by
    show Value.int .u8 (x.toNat : Int) :: flat fB l = Value.int .u8 (x.toNat : Int) :: bcells l
    rw [flatB l]
theorem OwnB.flat_ {w : World} {base : Nat} {e : TypeId} {v : Value} {l : List UInt8} (h : OwnB w base e v l) : w.ownsRow base e 1 v l.length (flat fB l) := by
  rw [flatB]
  exact h
theorem OwnB.of_flat {w : World} {base : Nat} {e : TypeId} {v : Value} {l : List UInt8} (h : w.ownsRow base e 1 v l.length (flat fB l)) : OwnB w base e v l := by
  rw [flatB] at h
  exact h
theorem BX.grownx {w w' : World} {g : Nat} {t : TypeId} {vs : List Value} {row : Option Nat} (h : BX w g t vs) (hg : w.grownBy w' row) (hne : row ≠ some g) : BX w' g t vs := (hg.block g h.lt (fun e => hne e.symm)).trans h
theorem BX.drx {w : World} {g : Nat} {t : TypeId} {vs : List Value} (h : BX w g t vs) : BX w.drew g t vs := h
end Go.Proofs.YtbobehieaaaleaaDoor
namespace Go.Proofs.YtbobehieaaaleaaDoor
set_option linter.unusedVariables false
open Go.RowKit

def strN : Value → Nat
  | .string b => b.size
  | _ => 0
theorem em_str {d : ByteArray} (h : d.size = 0) : d = ⟨#[]⟩ := by
  apply ByteArray.ext
  exact Array.eq_empty_of_size_eq_zero h
theorem ne_str {d : ByteArray} (h : ¬ d.size = 0) : d.toList.isEmpty = false := by
  rw [ByteArray.toList_eq]
  have h2 : d.data.toList.length ≠ 0 := by rw [Array.length_toList]; exact h
  cases hd : d.data.toList with
  | nil => rw [hd] at h2; exact absurd rfl h2
  | cons x r => rfl
theorem ret_strT {a b : ByteArray} (h : a = b) : Ending.returned (.string a) = .returned (.string b) := by rw [h]
set_option maxRecDepth 100000 in
set_option maxHeartbeats 1000000 in
theorem l28Title_any (s : ByteArray) (w : World) (hs : s.size ≤ 1048576) :
    Calls Tryd.prog 49 #[.string s] w fun e w' => e = .returned (.string (trB s 32)) ∧ w = w' := by
  go_enter Tryd.func49, Tryd.ntmps49
  go_wp2
  go_loop [0] (fun v => ∃ t : ByteArray, v = .string t ∧ t.size ≤ s.size ∧ Hid (Lib.trimRightB t.data.toList 32 = Lib.trimRightB s.data.toList 32)) (fun v => strN v)
  case atStart => exact ⟨s, rfl, Nat.le_refl _, Lib.hid rfl⟩
  case round =>
    obtain ⟨t, rfl, ht, HI⟩ := hrel
    by_cases h0 : t.size = 0
    · obtain rfl := em_str h0
      have HR := Lib.hid (show (⟨#[]⟩ : ByteArray) = trB s 32 by
        unfold trB
        rw [← HI.out]
        rfl)
      have hem : (⟨#[]⟩ : ByteArray).toList.isEmpty = true := by rw [ByteArray.toList_eq]; rfl
      go_wp2
      go_ret
      exact ⟨ret_strT HR.out, rfl⟩
    obtain ⟨m, hm⟩ : ∃ m, t.size = m + 1 := ⟨t.size - 1, by omega⟩
    have hne := ne_str h0
    have hml : m < t.size := by omega
    have hll := last_list t m hm
    have hw : IntKind.i64.wrap ((t.size : Int) - 1) = (m : Int) := by rw [IntWalk.i64_in _ (by omega)]; omega
    have hmi : (m : Int) < (t.size : Int) := by omega
    have hmle : (m : Int) ≤ (t.size : Int) := by omega
    have hb := t[m].toNat_lt
    by_cases hc : t[m] = 32
    · have hcb : ((t[m].toNat : Int) == 32) = true := by rw [hc]; rfl
      have HN := Lib.hid (show Lib.trimRightB (t.extract 0 m).data.toList 32 = Lib.trimRightB s.data.toList 32 by
        rw [← HI.out, hll, hc, tr_same])
      have hes : (t.extract 0 m).size = m := by rw [ByteArray.size_extract]; omega
      clear hll hc h0
      go_wp2
      go_round
      case rel => exact ⟨t.extract 0 m, rfl, by omega, HN⟩
      case measure => show (t.extract 0 m).size < t.size; omega
    · have hcb : ((t[m].toNat : Int) == 32) = false := by
        rw [beq_eq_false_iff_ne]
        intro e
        apply hc
        have h32 : t[m].toNat = 32 := by omega
        exact UInt8.toNat_inj.1 h32
      have HR := Lib.hid (show t = trB s 32 by
        unfold trB
        rw [← HI.out, hll, tr_else _ hc, ← hll])
      clear hll hc h0
      go_wp2
      go_ret
      exact ⟨ret_strT HR.out, rfl⟩
theorem xraw_rd {w : World} {bb off n s k : Nat} {J : List UInt8} (hr : RR w 1 (some ⟨bb, off, none⟩) n (bcells J)) (hnJ : n = J.length) (hk : s + 16 * (k + 1) ≤ n) : RR w 1 (some ⟨bb, off + (s + 16 * k), none⟩) 16 (bcells (xRaw J s k)) := by
  have hl : (xRaw J s k).length = 16 := xRaw_len (by omega)
  refine ⟨by rw [bcells_length, hl], fun _ => ?_⟩
  obtain ⟨b', off', he, hbb, hc⟩ := hr.2 (by omega)
  cases he
  refine ⟨bb, off + (s + 16 * k), rfl, hbb, fun j hj => ?_⟩
  rw [bcells_length, hl] at hj
  have h1 := hc (s + 16 * k + j) (by rw [bcells_length]; omega)
  have h2 : off + (s + 16 * k + j) = off + (s + 16 * k) + j := by omega
  rw [h2] at h1
  rw [h1]
  simp only [bcells, List.getElem_map, xRaw, List.getElem_take, List.getElem_drop]
theorem own16 {w : World} {base n : Nat} {e : TypeId} {v : Value} {l : List UInt8} (h : OwnB w base e v l) (hn : l.length = n) : w.ownsRow base e 1 v n (bcells l) := by
  subst hn
  exact h
set_option maxRecDepth 100000 in
set_option maxHeartbeats 2000000 in
theorem l17Raw_any (g b s E X : Nat) (A : Option Addr) (cp : Nat) (l : List ByteArray) (k : Nat) (w : World) (d : CP w g [.int .i64 (b : Int), .int .i64 (s : Int), .int .i64 (E : Int), .int .i64 (X : Int)]) (hr : RR w 1 A l.length (flat fS l)) (hs : s = 8 ∨ s = 16 ∨ s = 32) (hl : ∀ x ∈ l, x.size = s) (hn : l.length ≤ 128) (hk : s + 16 * (k + 1) ≤ l.length * s) :
    Calls Tryd.prog 48 #[.slice A l.length cp, .pointer (some ⟨g, 0, none⟩), .int .i64 (k : Int)] w fun e w' => ∃ v, e = .returned v ∧ w'.ownsRow w.heap.size 5 1 v 16 (bcells (xRaw (jn l) s k)) ∧ Below w.heap.size w w' := by
  have hs32 : s ≤ 32 := by omega
  have hs8 : 8 ≤ s := by omega
  have hsp : ¬ (s : Int) = 0 := by omega
  have hsp1 : ((s : Int) == 0) = false := by simp; omega
  have hspn : ¬ s = 0 := by omega
  have hspz : 0 < s := by omega
  have hJ : s + 16 * (k + 1) ≤ (jn l).length := by rw [jn_len l s hl]; exact hk
  have hk256 : k ≤ 256 := by
    have := Nat.mul_le_mul hn hs32
    omega
  obtain ⟨K, hK⟩ : ∃ K, 16 * k = K := ⟨_, rfl⟩
  obtain ⟨Z, hZ⟩ : ∃ Z, K + 16 = Z := ⟨_, rfl⟩
  obtain ⟨q, hq⟩ : ∃ q, k + 1 = q := ⟨_, rfl⟩
  have hw0 : IntKind.i64.wrap (16 * (k : Int)) = (K : Int) := by rw [IntWalk.i64_in _ (by omega)]; omega
  have hw1 : IntKind.i64.wrap ((k : Int) + 1) = (q : Int) := by rw [IntWalk.i64_in _ (by omega)]; omega
  have hw2 : IntKind.i64.wrap (16 * (q : Int)) = (Z : Int) := by rw [IntWalk.i64_in _ (by omega)]; omega
  have d1 : (_ : Option Value) = some (.int .i64 (s : Int)) := d 1 (by simp)
  go_enter Tryd.func48, Tryd.ntmps48
  go_wp2
  have hbase : Below w.heap.size w (w.alloc (.cells #[] 5)) := (by repeat (first | exact Below.refl _ _ | refine below_step ?_ (by assumption) | assumption | refine Below.drew ?_ | refine below_drewN ?_ _ | refine below_alloc ?_ _ | refine Below.setCell ?_ (by simp; try omega) _))
  go_loopw [7, 8] (fun v i wr => ∃ (p : Nat) (out : List UInt8), K ≤ p ∧ p ≤ Z ∧ i = .int .i64 (p : Int) ∧ Hid (out = (xRaw (jn l) s k).take (p - K)) ∧ OwnB wr w.heap.size 5 v out ∧ BB w wr) (fun _ i _ => Z - (intOf i).toNat)
  case atStart => exact ⟨K, [], Nat.le_refl _, by omega, rfl, Lib.hid (by simp), OwnB.lit w [] #[] rfl (Nat.le_refl _) (by decide), hbase⟩
  case round =>
    obtain ⟨p, out, hp0, hp1, rfl, HO0, hown, hB⟩ := hrel
    obtain ⟨j, hj⟩ : ∃ j, K + j = p := ⟨p - K, by omega⟩
    have ho := HO0.out
    rw [show p - K = j by omega] at ho
    clear HO0
    obtain ⟨A2, c2, rfl⟩ := hown.form
    have hxl := xRaw_len hJ
    have hol : out.length = j := by rw [ho, List.length_take, hxl]; omega
    have HOL := Lib.hid hol
    by_cases hlt : j < 16
    · have hd : decide ((p : Int) < (Z : Int)) = true := decide_eq_true (by omega)
      obtain ⟨a, ha⟩ : ∃ a, p / s = a := ⟨_, rfl⟩
      obtain ⟨r, hrr⟩ : ∃ r, p % s = r := ⟨_, rfl⟩
      have hdm : a * s + r = p := by rw [← ha, ← hrr, Nat.mul_comm]; exact Nat.div_add_mod _ _
      have hrs : r < s := by rw [← hrr]; exact Nat.mod_lt _ (by omega)
      have ha1 : 1 + a < l.length := by
        have h1 : (1 + a) * s < l.length * s := by rw [Nat.add_mul, Nat.one_mul]; omega
        exact Nat.lt_of_mul_lt_mul_right h1
      obtain ⟨a1, ha1e⟩ : ∃ a1, 1 + a = a1 := ⟨_, rfl⟩
      rw [ha1e] at ha1
      obtain ⟨hr1, hat⟩ := jn_at l s hl a1 r ha1 hrs
      have htd : (p : Int).tdiv (s : Int) = (a : Int) := by rw [← ha, Int.tdiv_eq_ediv_of_nonneg (by omega)]; rfl
      have htm : (p : Int).tmod (s : Int) = (r : Int) := by rw [← hrr, Int.tmod_eq_emod_of_nonneg (by omega)]; rfl
      have hn1 : IntKind.i64.wrap (1 + (a : Int)) = (a1 : Int) := by rw [IntWalk.i64_in _ (by omega)]; omega
      have hwa : IntKind.i64.wrap (a : Int) = (a : Int) := IntWalk.i64_in _ (by omega)
      have hwr : IntKind.i64.wrap (r : Int) = (r : Int) := IntWalk.i64_in _ (by omega)
      have hai : (a1 : Int) < (l.length : Int) := by omega
      obtain ⟨bb, off, rfl, hbb, hcc⟩ := (RR.back hr hB).at_ fS_len rfl a1 ha1
      have hc0 := hcc 0 _ (by omega) rfl
      clear hcc
      simp only [Nat.mul_one, Nat.add_zero] at hc0
      have hyx : (xRaw (jn l) s k)[j]'(by rw [hxl]; exact hlt) = l[a1][r] := by
        rw [xRaw_get hJ hlt]
        have e1 : s + 16 * k + j = a1 * s + r := by rw [← ha1e, Nat.add_mul, Nat.one_mul]; omega
        have e2 : (jn l)[s + 16 * k + j]? = some (l[a1][r]) := by rw [e1]; exact hat
        rw [List.getElem?_eq_getElem (by omega), Option.some.injEq] at e2
        exact e2
      have HO := Lib.hid (show out ++ [l[a1][r]] = (xRaw (jn l) s k).take (j + 1) by
        rw [ho, ← hyx, List.take_succ_eq_append_getElem (by rw [hxl]; exact hlt)])
      obtain ⟨y, hy⟩ : ∃ y, l[a1] = y := ⟨_, rfl⟩
      simp only [hy] at hc0 HO hr1
      obtain ⟨u, hu⟩ : ∃ u, y[r] = u := ⟨_, rfl⟩
      have hri : (r : Int) < (y.size : Int) := by omega
      have hub := u.toNat_lt
      rw [hu] at HO
      have d1r : wr.cell? ⟨g, 1, none⟩ = some (.int .i64 (s : Int)) := (Below.cell hB (p := ⟨g, 1, none⟩) (cell_spot d1).2).trans d1
      have hwj : IntKind.i64.wrap ((p : Int) + 1) = ((p + 1 : Nat) : Int) := by rw [IntWalk.i64_in _ (by omega)]; omega
      have hol16 : out.length ≤ 16 := by omega
      clear hyx hat ha hrr hdm hy ho hol hxl ha1e
      go_upto_region 5 with fail
      have hbase : w.heap.size ≤ wr.heap.size := Below.size hB
      have hby : 1 ≤ 1000 := by decide
      have hlb : out.length ≤ 100000000 := by omega
      go_region_law (refine step_appG (w := wr.drew) (f := fB) rfl (.tmp 19) (.tmp 37) 41 rfl eltB hby (.slice A2 out.length c2) out out.length rfl rfl (OwnB.flat_ hown) #[.int .u8 (u.toNat : Int)] 5 u 1 rfl rfl rfl (oneB u) hlb hbase ?_; intro v7 w7 hown7 hg7 hat7 hbl7)
      all_goals
        have hown8 := OwnB.of_flat hown7
        have hB7 : BB w w7 := Below.trans (BB.dr hB) hbl7
        go_wp2_with fail
        go_roundw
        case rel => exact ⟨p + 1, out ++ [u], by omega, by omega, by go_num, Lib.hid (by rw [show p + 1 - K = j + 1 by omega]; exact HO.out), hown8, hB7⟩
        case measure => simp [intOf]; omega
    · have hd : decide ((p : Int) < (Z : Int)) = false := decide_eq_false (by omega)
      have HR := Lib.hid (show out = xRaw (jn l) s k by rw [ho, List.take_of_length_le (by rw [hxl]; omega)])
      have h16 : out.length = 16 := by omega
      have HO16 := Lib.hid h16
      clear ho hol hxl h16
      go_wp2
      go_ret
      exact ⟨_, rfl, by rw [← HR.out]; exact own16 hown HO16.out, hB⟩
set_option maxRecDepth 100000 in
set_option maxHeartbeats 1000000 in
theorem entryBytes_any (g b s E X bb off n c : Nat) (J : List UInt8) (k : Nat) (w : World) (d : CP w g [.int .i64 (b : Int), .int .i64 (s : Int), .int .i64 (E : Int), .int .i64 (X : Int), .slice (some ⟨bb, off, none⟩) n c]) (hr : RR w 1 (some ⟨bb, off, none⟩) n (bcells J)) (hk : s + 16 * (k + 1) ≤ n) (hs : s ≤ 32) (hn : n ≤ 4096) (hnc : n ≤ c) :
    Calls Tryd.prog 75 #[.pointer (some ⟨g, 0, none⟩), .int .i64 (k : Int)] w fun e w' => ∃ c2, e = .returned (.slice (some ⟨bb, off + (s + 16 * k), none⟩) 16 c2) ∧ 16 ≤ c2 ∧ w = w' ∧ RR w 1 (some ⟨bb, off + (s + 16 * k), none⟩) 16 (bcells (xRaw J s k)) := by
  have hnJ : n = J.length := by have := hr.1; rw [bcells_length] at this; omega
  have d1 : (_ : Option Value) = some (.int .i64 (s : Int)) := d 1 (by simp)
  have d4 : (_ : Option Value) = some (.slice (some ⟨bb, off, none⟩) n c) := d 4 (by simp)
  have HR := Lib.hid (xraw_rd hr hnJ hk)
  obtain ⟨K, hK⟩ : ∃ K, 16 * k = K := ⟨_, rfl⟩
  have hw1 : IntKind.i64.wrap ((k : Int) * 16) = (K : Int) := by rw [IntWalk.i64_in _ (by omega)]; omega
  rw [hK] at HR ⊢
  obtain ⟨q, hq⟩ : ∃ q, s + K = q := ⟨_, rfl⟩
  have hw2 : IntKind.i64.wrap ((s : Int) + (K : Int)) = (q : Int) := by rw [IntWalk.i64_in _ (by omega)]; omega
  rw [hq] at HR ⊢
  obtain ⟨Z, hZ⟩ : ∃ Z, q + 16 = Z := ⟨_, rfl⟩
  have hw3 : IntKind.i64.wrap ((q : Int) + 16) = (Z : Int) := by rw [IntWalk.i64_in _ (by omega)]; omega
  have HQ := Lib.hid (show Z - q = 16 by omega)
  have i1 : q ≤ Z := by omega
  have i2 : Z ≤ c := by omega
  have i3 : ¬ c = q := by omega
  have i4 : 16 ≤ c - q := by omega
  clear hnJ hr hq hZ hK
  go_enter Tryd.func75, Tryd.ntmps75
  go_wp2
  go_ret
  exact ⟨c - q, by first | (rw [← HQ.out]; rfl) | (rw [HQ.out]) | simp [HQ.out], i4, rfl, HR.out⟩
end Go.Proofs.YtbobehieaaaleaaDoor
namespace Go.Proofs.YtbobehieaaaleaaDoor
set_option linter.unusedVariables false
open Go.RowKit

theorem xeR_0 {B : List UInt8} (h : gb B 0 = 0) : xeR B = xe0 := by unfold xeR; exact if_pos h
theorem xeR_1 {B : List UInt8} (h : ¬ gb B 0 = 0) : xeR B = ⟨(gb B 0 : Int), xNm B, (gb B 9 : Int), (gb B 10 : Int), xBl B (min (gb B 11) 4)⟩ := by unfold xeR; exact if_neg h
theorem gb_lt (B : List UInt8) (k : Nat) : gb B k < 256 := (B.getD k 0).toNat_lt
theorem xBl_0 (B : List UInt8) : xBl B 0 = [] := by simp [xBl]
theorem xBl_step {B : List UInt8} {k : Nat} (h : 12 + k < B.length) : xBl B k ++ [((B[12 + k].toNat : Nat) : Int)] = xBl B (k + 1) := by
  have h1 : k < (B.drop 12).length := by rw [List.length_drop]; omega
  unfold xBl
  rw [List.take_succ_eq_append_getElem h1, List.map_append, List.map_singleton, List.getElem_drop]
theorem xBl_len {B : List UInt8} {k : Nat} (h : 12 + k ≤ B.length) : (xBl B k).length = k := by
  simp only [xBl, List.length_map, List.length_take, List.length_drop]
  omega
theorem xeOk_v {s : Int} {B : List UInt8} (h : xV s (xeR B) = false) : xeOk s B = false ∧ xeE s B = xe0 := by
  have : xeOk s B = false := by unfold xeOk; rw [h]; rfl
  exact ⟨this, by unfold xeE; rw [this]; rfl⟩
theorem xeOk_b {s : Int} {B : List UInt8} (h : xV s (xeR B) = true) (g : ¬ xB (xeR B) = B) : xeOk s B = false ∧ xeE s B = xe0 := by
  have : xeOk s B = false := by unfold xeOk; rw [h, decide_eq_false g]; rfl
  exact ⟨this, by unfold xeE; rw [this]; rfl⟩
theorem xeOk_y {s : Int} {B : List UInt8} (h : xV s (xeR B) = true) (g : xB (xeR B) = B) : xeOk s B = true ∧ xeE s B = xeR B := by
  have : xeOk s B = true := by unfold xeOk; rw [h, decide_eq_true g]; rfl
  exact ⟨this, by unfold xeE; rw [this]; rfl⟩
theorem xB_len {e : XE} (h : e.bl.length ≤ 4) : (xB e).length = 16 := by
  unfold xB
  split
  · exact z16_len
  · have h1 : (spl 1 (nmC e.nm) 8 (z16.set 0 (UInt8.ofNat e.st.toNat))).length = 16 := by rw [spl_len (by rw [List.length_set, z16_len]; omega), List.length_set, z16_len]
    rw [spl_len (by rw [List.length_set, List.length_set, List.length_set, h1]; omega), List.length_set, List.length_set, List.length_set, h1]
/-- A box of an entry at X, an empty one at the start of the call, the bytes that are read, the layout behind g. -/
structure E0 (w W : World) (X bb off g : Nat) (vs : List Value) (B : List UInt8) (LY : List Value) : Prop where
  F : BX W X 59 vs
  Z : BX W w.heap.size 59 [.int .i64 0, .string ⟨#[]⟩, .int .i64 0, .int .i64 0, .slice none 0 0]
  R : RR W 1 (some ⟨bb, off, none⟩) 16 (bcells B)
  D : CP W g LY
  Bw : BB w W
  hX : w.heap.size < X
  hb : bb < X
  hb0 : bb ≠ w.heap.size
  hg : g < w.heap.size
section
variable {w W W' : World} {X bb off g : Nat} {vs LY : List Value} {B : List UInt8}
theorem RR.putx {A : Option Addr} {n : Nat} {xs : List Value} (h : RR W 1 (some ⟨bb, off, none⟩) n xs) {a : Addr} (ha : bb ≠ a.block) (u : Value) : RR (W.setCell a u) 1 (some ⟨bb, off, none⟩) n xs := by
  refine ⟨h.1, fun hn => ?_⟩
  obtain ⟨b, o, he, hb, hc⟩ := h.2 hn
  cases he
  exact ⟨_, _, rfl, by simpa using hb, fun j hj => (World.cell?_setCell_other W a ⟨bb, off + j, none⟩ u (by intro e; exact ha (by rw [e]))).trans (hc j hj)⟩
theorem RR.farx {n : Nat} {xs : List Value} {row : Option Nat} (h : RR W 1 (some ⟨bb, off, none⟩) n xs) (hg : W.grownBy W' row) (hne : row ≠ some bb) : RR W' 1 (some ⟨bb, off, none⟩) n xs := by
  refine ⟨h.1, fun hn => ?_⟩
  obtain ⟨b, o, he, hb, hc⟩ := h.2 hn
  cases he
  refine ⟨_, _, rfl, Nat.lt_of_lt_of_le hb hg.size, fun j hj => ?_⟩
  rw [World.grownBy.cell_far hg ⟨bb, off + j, none⟩ hb (fun e => hne e.symm)]
  exact hc j hj
theorem E0.al (H : E0 w W X bb off g vs B LY) (o : Obj) : E0 w (W.alloc o) X bb off g vs B LY := ⟨H.F.al o, H.Z.al o, RR.al H.R o, CP.al H.D o, BB.al H.Bw o, H.hX, H.hb, H.hb0, H.hg⟩
theorem E0.dr (H : E0 w W X bb off g vs B LY) : E0 w W.drew X bb off g vs B LY := ⟨H.F, H.Z, H.R, H.D, BB.dr H.Bw, H.hX, H.hb, H.hb0, H.hg⟩
theorem E0.dn (H : E0 w W X bb off g vs B LY) (n : Nat) : E0 w (W.drewN n) X bb off g vs B LY := ⟨H.F, H.Z, H.R, H.D, BB.dn H.Bw n, H.hX, H.hb, H.hb0, H.hg⟩
theorem E0.next (H : E0 w W X bb off g vs B LY) (hx : Below W.heap.size W W') : E0 w W' X bb off g vs B LY := ⟨H.F.below hx H.F.lt, H.Z.below hx H.Z.lt, RR.next H.R hx, CP.next H.D hx, BB.next H.Bw hx, H.hX, H.hb, H.hb0, H.hg⟩
theorem E0.put (H : E0 w W X bb off g vs B LY) (j : Nat) (u : Value) : E0 w (W.setCell ⟨X, j, none⟩ u) X bb off g (vs.set j u) B LY := by
  have h1 := H.hX
  have h2 := H.hb
  have h3 := H.hg
  exact ⟨H.F.put j u, H.Z.far (a := ⟨X, j, none⟩) (by show w.heap.size ≠ X; omega) u, RR.putx (A := none) H.R (a := ⟨X, j, none⟩) (by show bb ≠ X; omega) u, CP.put H.D (a := ⟨X, j, none⟩) (by show g ≠ X; omega) u, BB.put H.Bw (a := ⟨X, j, none⟩) (by show w.heap.size ≤ X; omega) u, h1, h2, H.hb0, h3⟩
theorem E0.row (H : E0 w W X bb off g vs B LY) {row : Option Nat} (hg : W.grownBy W' row) (hr : ∀ j, row = some j → X + 1 ≤ j) : E0 w W' X bb off g vs B LY := by
  have h1 := H.hX
  have h2 := H.hb
  have h3 := H.hg
  exact ⟨H.F.grownx hg (fun e => by have := hr _ e; omega), H.Z.grownx hg (fun e => by have := hr _ e; omega), RR.farx H.R hg (fun e => by have := hr _ e; omega), CP.far H.D hg (fun e => by have := hr _ e; omega), Below.grown H.Bw hg (Below.size H.Bw) (fun k hk => by have := hr k hk; omega), h1, h2, H.hb0, h3⟩
theorem conv_rr {P : Program} {src dst e : TypeId} {n : Nat} {Q : List UInt8} (hs : P.underlying src = some (.slice e)) (he : P.underlying e = some (.int .u8)) (hd : P.underlying dst = some .string) (h : RR W 1 (some ⟨bb, off, none⟩) n (bcells Q)) (hn : n = Q.length) (c : Nat) :
    (convert src dst (.slice (some ⟨bb, off, none⟩) n c)).run P W = .ok (.string ⟨Q.toArray⟩) W := by
  subst hn
  refine run_convert_bytes_back W src dst e ⟨bb, off, none⟩ c Q hs he hd ?_
  intro j hj
  obtain ⟨b, o, hbe, hb, hc⟩ := h.2 (by omega)
  cases hbe
  have h1 := hc j (by rw [bcells_length]; exact hj)
  rw [show (⟨bb, off, none⟩ : Addr).add j = ⟨bb, off + j, none⟩ by
    unfold Addr.add
    split
    · rename_i h0; rw [h0]; rfl
    · rfl, h1, bcells_at]
theorem rr_sub {n : Nat} {Q : List UInt8} (h : RR W 1 (some ⟨bb, off, none⟩) n (bcells Q)) (hn : n = Q.length) (a m : Nat) (ham : a + m ≤ n) (hm : 0 < m) : RR W 1 (some ⟨bb, off + a, none⟩) m (bcells ((Q.drop a).take m)) := by
  have hl : ((Q.drop a).take m).length = m := by rw [List.length_take, List.length_drop]; omega
  refine ⟨by rw [bcells_length, hl, Nat.mul_one], fun _ => ?_⟩
  obtain ⟨b, o, hbe, hb, hc⟩ := h.2 (by omega)
  cases hbe
  refine ⟨bb, off + a, rfl, hb, fun j hj => ?_⟩
  rw [bcells_length, hl] at hj
  have h1 := hc (a + j) (by rw [bcells_length]; omega)
  rw [show off + (a + j) = off + a + j by omega] at h1
  rw [h1]
  simp only [bcells, List.getElem_map, List.getElem_take, List.getElem_drop]
theorem own_capX {w : World} {base : Nat} {e : TypeId} {size n c : Nat} {A : Option Addr} {xs : List Value} (h : w.ownsRow base e size (.slice A n c) n xs) : n ≤ c := by
  rcases h.2 with ⟨_, h0⟩ | ⟨g, cap, cur, hv, _, _, h1, _⟩
  · omega
  · cases hv
    exact h1
theorem rr_byte {Q : List UInt8} (h : RR W 1 (some ⟨bb, off, none⟩) 16 (bcells Q)) (hQ : Q.length = 16) (j : Nat) (hj : j < 16) : W.cell? ⟨bb, off + j, none⟩ = some (.int .u8 (gb Q j : Int)) := by
  obtain ⟨b, o, hbe, hb, hc⟩ := h.2 (by omega)
  cases hbe
  rw [hc j (by rw [bcells_length]; omega), bcells_at Q j (by omega), gb_get (by omega)]
end
set_option maxRecDepth 100000 in
set_option maxHeartbeats 16000000 in
theorem l17At_any (g b z E Y : Nat) (A : Option Addr) (cp : Nat) (l : List ByteArray) (k : Nat) (w : World) (d : CP w g [.int .i64 (b : Int), .int .i64 (z : Int), .int .i64 (E : Int), .int .i64 (Y : Int)]) (hr : RR w 1 A l.length (flat fS l)) (hs : z = 8 ∨ z = 16 ∨ z = 32) (hl : ∀ x ∈ l, x.size = z) (hn : l.length ≤ 128) (hk : z + 16 * (k + 1) ≤ l.length * z) :
    Calls Tryd.prog 23 #[.slice A l.length cp, .pointer (some ⟨g, 0, none⟩), .int .i64 (k : Int)] w fun r w' => ∃ A c, r = .returned (.tuple #[.agg #[.int .i64 (xeE (z : Int) (xRaw (jn l) z k)).st, .string (xeE (z : Int) (xRaw (jn l) z k)).nm, .int .i64 (xeE (z : Int) (xRaw (jn l) z k)).nu, .int .i64 (xeE (z : Int) (xRaw (jn l) z k)).tl, .slice A (xeE (z : Int) (xRaw (jn l) z k)).bl.length c], .bool (xeOk (z : Int) (xRaw (jn l) z k))]) ∧ w'.ownsRow w.heap.size 2 1 (.slice A (xeE (z : Int) (xRaw (jn l) z k)).bl.length c) (xeE (z : Int) (xRaw (jn l) z k)).bl.length (flat fI (xeE (z : Int) (xRaw (jn l) z k)).bl) ∧ BB w w' := by
  have F0 := BX.made w 59 [.int .i64 0, .string ⟨#[]⟩, .int .i64 0, .int .i64 0, .slice none 0 0]
  have hB0 : BB w (w.alloc (.cells #[.int .i64 0, .string ⟨#[]⟩, .int .i64 0, .int .i64 0, .slice none 0 0] 59)) := BB.al (BB.start w) _
  have hg : g < w.heap.size := (cell_spot (d 0 (by simp))).2
  have raw := l17Raw_any g b z E Y A cp l k (w.alloc (.cells #[.int .i64 0, .string ⟨#[]⟩, .int .i64 0, .int .i64 0, .slice none 0 0] 59)) (CP.al d (.cells #[.int .i64 0, .string ⟨#[]⟩, .int .i64 0, .int .i64 0, .slice none 0 0] 59)) (RR.al hr (.cells #[.int .i64 0, .string ⟨#[]⟩, .int .i64 0, .int .i64 0, .slice none 0 0] 59)) hs hl hn hk
  have hBl : (xRaw (jn l) z k).length = 16 := xRaw_len (by rw [jn_len l z hl]; exact hk)
  obtain ⟨B, hBe⟩ : ∃ B, xRaw (jn l) z k = B := ⟨_, rfl⟩
  rw [hBe] at raw hBl ⊢
  clear hBe
  go_enter Tryd.func23, Tryd.ntmps23
  have w0 : IntKind.i64.wrap (gb B 0 : Int) = (gb B 0 : Int) := by have := gb_lt B 0; exact IntWalk.i64_in _ (by omega)
  go_upto_if 22 with (go_at_call 48; (with_reducible refine raw.mono ?_); rintro r w1 ⟨v, rfl, O1, hx1⟩; obtain ⟨bb, vc, rfl, hb0, hb1⟩ := World.ownsRow.form O1 (by decide); have b0 := rr_byte (RR.own O1) hBl 0 (by decide))
  have hvc := own_capX O1
  have hl0 : (w.alloc (.cells #[.int .i64 0, .string ⟨#[]⟩, .int .i64 0, .int .i64 0, .slice none 0 0] 59)).heap.size = w.heap.size + 1 := World.size_alloc w _
  have H : E0 w (w1.alloc (.cells #[.int .i64 (gb B 0 : Int), .string ⟨#[]⟩, .int .i64 0, .int .i64 0, .slice none 0 0] 59)) w1.heap.size bb 0 g [.int .i64 (gb B 0 : Int), .string ⟨#[]⟩, .int .i64 0, .int .i64 0, .slice none 0 0] B [.int .i64 (b : Int), .int .i64 (z : Int), .int .i64 (E : Int), .int .i64 (Y : Int)] := ⟨BX.made w1 59 [.int .i64 (gb B 0 : Int), .string ⟨#[]⟩, .int .i64 0, .int .i64 0, .slice none 0 0], (F0.below hx1 F0.lt).al (.cells #[.int .i64 (gb B 0 : Int), .string ⟨#[]⟩, .int .i64 0, .int .i64 0, .slice none 0 0] 59), RR.al (RR.own O1) (.cells #[.int .i64 (gb B 0 : Int), .string ⟨#[]⟩, .int .i64 0, .int .i64 0, .slice none 0 0] 59), CP.al (CP.next (CP.al d (.cells #[.int .i64 0, .string ⟨#[]⟩, .int .i64 0, .int .i64 0, .slice none 0 0] 59)) hx1) (.cells #[.int .i64 (gb B 0 : Int), .string ⟨#[]⟩, .int .i64 0, .int .i64 0, .slice none 0 0] 59), BB.al (BB.next hB0 hx1) (.cells #[.int .i64 (gb B 0 : Int), .string ⟨#[]⟩, .int .i64 0, .int .i64 0, .slice none 0 0] 59), by have := hx1.size; omega, hb1, by omega, hg⟩
  have hrX : RR (w1.alloc (.cells #[.int .i64 (gb B 0 : Int), .string ⟨#[]⟩, .int .i64 0, .int .i64 0, .slice none 0 0] 59)) 1 A l.length (flat fS l) := RR.back hr H.Bw
  clear raw O1 hx1 F0 hB0 d hb0 hb1 hl0 b0
  generalize (w1.alloc (.cells #[.int .i64 (gb B 0 : Int), .string ⟨#[]⟩, .int .i64 0, .int .i64 0, .slice none 0 0] 59)) = w2 at H hrX ⊢
  generalize w1.heap.size = X at H ⊢
  have hX := H.hX
  go_cut [10] (fun _ wx => ∃ (A5 : Option Addr) (c5 : Nat), E0 w wx X bb 0 g [.int .i64 (xeR B).st, .string (xeR B).nm, .int .i64 (xeR B).nu, .int .i64 (xeR B).tl, .slice A5 (xeR B).bl.length c5] B [.int .i64 (b : Int), .int .i64 (z : Int), .int .i64 (E : Int), .int .i64 (Y : Int)] ∧ OO wx (X + 1) 2 1 (.slice A5 (xeR B).bl.length c5) (xeR B).bl.length (flat fI (xeR B).bl))
  case first =>
    by_cases h0 : gb B 0 = 0
    · have h0b : ((gb B 0 : Int) != 0) = false := by rw [h0]; rfl
      have hR := xeR_0 h0
      rw [h0] at H
      go_wp2_with fail
      go_meet
      refine ⟨none, 0, ?_, ?_⟩
      · rw [hR]; exact H
      · rw [hR]; exact World.ownsRow_nil _ _ _ _
    have h0b : ((gb B 0 : Int) != 0) = true := by simp; omega
    have hR := Lib.hid (xeR_1 h0)
    clear h0
    have f0 : (_ : Option Value) = some (.int .i64 (gb B 0 : Int)) := H.F.cell 0 (by simp)
    have hf := fun j => H.F.free j
    have f1 : (_ : Option Value) = some (.string ⟨#[]⟩) := H.F.cell 1 (by simp)
    have i9 : 9 ≤ vc := by omega
    have i1 : ¬ vc = 1 := by omega
    have hcv := conv_rr (P := Tryd.prog) (src := 41) (dst := 9) Tryd.underlying41 Tryd.underlying5 Tryd.underlying9 (rr_sub H.R hBl.symm 1 8 (by decide) (by decide)) (by rw [List.length_take, List.length_drop, hBl]; rfl) (vc - 1)
    simp only [Nat.zero_add] at hcv
    obtain ⟨N, hN⟩ : ∃ N : ByteArray, (⟨((B.drop 1).take 8).toArray⟩ : ByteArray) = N := ⟨_, rfl⟩
    rw [hN] at hcv
    have hNs : N.size ≤ 8 := by
      rw [← hN]
      show ((B.drop 1).take 8).toArray.size ≤ 8
      rw [List.size_toArray, List.length_take]
      omega
    have hNx : trB N 32 = xNm B := by rw [← hN]; rfl
    have tt : ∀ W, Calls Tryd.prog 49 #[.string N] W fun e w' => e = .returned (.string (xNm B)) ∧ W = w' := fun W => by
      have := l28Title_any N W (by omega)
      rwa [hNx] at this
    clear hN hNx hNs
    have H1 := H.put 1 (.string (xNm B))
    have w9 : IntKind.i64.wrap (gb B 9 : Int) = (gb B 9 : Int) := by have := gb_lt B 9; exact IntWalk.i64_in _ (by omega)
    have w10 : IntKind.i64.wrap (gb B 10 : Int) = (gb B 10 : Int) := by have := gb_lt B 10; exact IntWalk.i64_in _ (by omega)
    have b9 := rr_byte H1.R hBl 9 (by decide)
    have hf1 := fun j => H1.F.free j
    have f2 : (_ : Option Value) = some (.int .i64 0) := H1.F.cell 2 (by simp)
    have H2 := H1.put 2 (.int .i64 (gb B 9 : Int))
    have b10 := rr_byte H2.R hBl 10 (by decide)
    have hf2 := fun j => H2.F.free j
    have f3 : (_ : Option Value) = some (.int .i64 0) := H2.F.cell 3 (by simp)
    have H3 := H2.put 3 (.int .i64 (gb B 10 : Int))
    simp only [Nat.zero_add] at b9 b10
    go_wp2_with (go_at_call 49; (with_reducible refine (tt _).mono ?_); rintro r w9 ⟨rfl, rfl⟩)
    clear f0 f1 f2 f3 hf hf1 hf2 b9 b10 hcv tt H H1 H2 w9 w10 h0b
    generalize (((w2.setCell ⟨X, 1, none⟩ (.string (xNm B))).setCell ⟨X, 2, none⟩ (.int .i64 (gb B 9 : Int))).setCell ⟨X, 3, none⟩ (.int .i64 (gb B 10 : Int))) = w3 at H3 ⊢
    go_loopw [10] (fun i wr => ∃ (L : List Int) (A5 : Option Addr) (c5 : Nat), i = .int .u8 (L.length : Int) ∧ L.length ≤ min (gb B 11) 4 ∧ Hid (L = xBl B L.length) ∧ E0 w wr X bb 0 g [.int .i64 (gb B 0 : Int), .string (xNm B), .int .i64 (gb B 9 : Int), .int .i64 (gb B 10 : Int), .slice A5 L.length c5] B [.int .i64 (b : Int), .int .i64 (z : Int), .int .i64 (E : Int), .int .i64 (Y : Int)] ∧ OO wr (X + 1) 2 1 (.slice A5 L.length c5) L.length (flat fI L)) (fun i _ => 4 - (intOf i).toNat)
    case atStart => exact ⟨[], none, 0, rfl, Nat.zero_le _, Lib.hid (by rw [List.length_nil, xBl_0]), H3, World.ownsRow_nil _ _ _ _⟩
    case round =>
      clear H3
      obtain ⟨L, A5, c5, rfl, hLm, HL, H, O⟩ := hrel
      have b11 := rr_byte H.R hBl 11 (by decide)
      simp only [Nat.zero_add] at b11
      have hL4 : L.length ≤ 4 := by omega
      have fin : L.length = min (gb B 11) 4 → ∃ (A5 : Option Addr) (c5 : Nat), E0 w wr X bb 0 g [.int .i64 (xeR B).st, .string (xeR B).nm, .int .i64 (xeR B).nu, .int .i64 (xeR B).tl, .slice A5 (xeR B).bl.length c5] B [.int .i64 (b : Int), .int .i64 (z : Int), .int .i64 (E : Int), .int .i64 (Y : Int)] ∧ OO wr (X + 1) 2 1 (.slice A5 (xeR B).bl.length c5) (xeR B).bl.length (flat fI (xeR B).bl) := fun e => by
        rw [hR.out]
        have h9 := HL.out
        rw [e] at h9
        exact ⟨A5, c5, by rw [← h9]; exact H, by rw [← h9]; exact O⟩
      by_cases h1 : L.length < gb B 11
      · have d1 : decide ((L.length : Int) < (gb B 11 : Int)) = true := decide_eq_true (by omega)
        by_cases h2 : L.length < 4
        · have d2 : decide ((L.length : Int) < 4) = true := decide_eq_true (by omega)
          obtain ⟨J, hJ⟩ : ∃ J, 12 + L.length = J := ⟨_, rfl⟩
          have hJw : IntKind.u8.wrap (12 + (L.length : Int)) = (J : Int) := by rw [IntWalk.u8_in _ (by omega)]; omega
          have hJi : (J : Int) < 16 := by omega
          have bJ := rr_byte H.R hBl J (by omega)
          simp only [Nat.zero_add] at bJ
          obtain ⟨x, hx⟩ : ∃ x, gb B J = x := ⟨_, rfl⟩
          have hxl := gb_lt B J
          rw [hx] at bJ hxl
          have hxw : IntKind.i64.wrap (x : Int) = (x : Int) := IntWalk.i64_in _ (by omega)
          have HN := Lib.hid (show L ++ [(x : Int)] = xBl B (L ++ [(x : Int)]).length by
            rw [List.length_append, List.length_singleton, ← xBl_step (by omega)]
            have h9 := HL.out
            rw [← h9, ← hx, ← gb_get (by omega)]
            simp only [hJ])
          have hL1 : (L ++ [(x : Int)]).length = L.length + 1 := by rw [List.length_append]; rfl
          have hLn : L.length + 1 ≤ min (gb B 11) 4 := by omega
          have q4 : (_ : Option Value) = some (.slice A5 L.length c5) := H.F.cell 4 (by simp)
          have q4o := fun (o : Obj) => (show (_ : Option Value) = some (.slice A5 L.length c5) from (BX.al H.F o).cell 4 (by simp))
          have hkw : IntKind.u8.wrap ((L.length : Int) + 1) = ((L.length + 1 : Nat) : Int) := by rw [IntWalk.u8_in _ (by omega)]; omega
          have hby : 8 ≤ 1000 := by decide
          have hlb : L.length ≤ 100000000 := by omega
          have hbase : X + 1 ≤ wr.heap.size := H.F.lt
          have hrow : ∀ j, (Value.slice A5 L.length c5).ownBlock = some j → X + 1 ≤ j := fun j e => (World.ownsRow.lt (OOf O) j e).1
          clear hx HL fin h1 hJ
          go_wp2_with fail
          go_region_law (refine step_appG (w := wr.drew) (f := fI) rfl (.tmp 50) (.tmp 57) 55 rfl eltI hby (.slice A5 L.length c5) L L.length rfl rfl (OO.dr O) #[.int .i64 (x : Int)] 2 (x : Int) 1 rfl rfl rfl (oneInt _) hlb hbase ?_; intro v7 w7 O7 hg7 hat7 hbl7; obtain ⟨A7, c7, rfl⟩ := own_form O7; have H7 := (E0.al (E0.dr H) (.cells #[.int .i64 (x : Int)] 2)).row hg7 hrow; have p4 : (_ : Option Value) = some (.slice A5 L.length c5) := H7.F.cell 4 (by simp); have hf7 := fun j => H7.F.free j)
          all_goals
            rw [hL1] at O7
            have H8 := H7.put 4 (.slice A7 (L.length + 1) c7)
            have hv7 : (Value.slice A7 (L.length + 1) c7).ownBlock ≠ some X := fun e => by have := (World.ownsRow.lt O7 X e).1; omega
            have O8 : OO _ _ _ _ _ _ _ := OO.putne O7 (a := ⟨X, 4, none⟩) hv7 (.slice A7 (L.length + 1) c7)
            go_wp2_with fail
            go_roundw
            case rel => exact ⟨L ++ [(x : Int)], A7, c7, by rw [hL1]; rfl, by rw [hL1]; exact hLn, HN, by rw [hL1]; exact H8, by rw [hL1]; exact O8⟩
            case measure => simp [intOf]; omega
        · have d2 : decide ((L.length : Int) < 4) = false := decide_eq_false (by omega)
          have hfin := fin (by omega)
          clear fin
          go_wp2_with fail
          go_meet
          exact hfin
      · have d1 : decide ((L.length : Int) < (gb B 11 : Int)) = false := decide_eq_false (by omega)
        have hfin := fin (by omega)
        clear fin
        go_wp2_with fail
        go_meet
        exact hfin
  case rest =>
    clear hX
    obtain ⟨A5, c5, H, O⟩ := hcut
    obtain ⟨w3, hw3⟩ : ∃ x, x = wc := ⟨_, rfl⟩
    subst hw3
    have hX := H.hX
    obtain ⟨ok1, ok2, ok3, ok4, ok5, ok6, ok7, ok8, ok9⟩ := xeR_ok B
    have V0 := fun h => xeOk_v (s := (z : Int)) (B := B) h
    have V1 := fun h g => xeOk_b (s := (z : Int)) (B := B) h g
    have V2 := fun h g => xeOk_y (s := (z : Int)) (B := B) h g
    generalize xeR B = e at H O ok1 ok2 ok3 ok4 ok5 ok6 ok7 ok8 ok9 V0 V1 V2
    have hxl := xB_len ok1.1
    have l1 : (_ : Option Value) = some (.int .i64 (z : Int)) := H.D 1 (by simp)
    have va := l17Valid_any X c5 e A5 (z : Int) w3.drew (BX.cp H.F) (RR.own (OOf (OO.dr O))) ok1 ok2 ok9
    cases hV : xV (z : Int) e
    · have HR := V0 hV
      have va' := fun (W : World) (h1 : CP W X [.int .i64 e.st, .string e.nm, .int .i64 e.nu, .int .i64 e.tl, .slice A5 e.bl.length c5]) (h2 : RR W 1 A5 e.bl.length (flat fI e.bl)) => l17Valid_any X c5 e A5 (z : Int) W h1 h2 ok1 ok2 ok9
      rw [hV] at va'
      have kl := gw_cell l1
      have hRO := RR.own (OOf O)
      have p1 := fun (p' : Regrown) => qb_below p' (va' (Sort.grow (redrawn w3 p'.d) p'.os) (CP.next (BX.cp H.F) (gw_below w3 p')) (RR.next hRO (gw_below w3 p')))
      clear V0 V1 V2 hV va va'
      go_upto_region 11 with fail
      refine wp_region_quiet_below (by kernel_rfl) (by kernel_rfl) ?_
      repeat (go_big_quiet_step (first | with_reducible exact p1 _))
      refine wpQuiet_nil ?_
      intro _ hw'
      obtain ⟨pq, hw''⟩ := hw'
      subst hw''
      have HF := H.next (gw_below w3 pq)
      clear p1 kl l1
      generalize Sort.grow (redrawn w3 pq.d) pq.os = w5 at HF ⊢
      have HR := Lib.hid HR
      have z0 : (_ : Option Value) = some (.int .i64 0) := HF.Z.cell 0 (by simp)
      have z1 : (_ : Option Value) = some (.string ⟨#[]⟩) := HF.Z.cell 1 (by simp)
      have z2 : (_ : Option Value) = some (.int .i64 0) := HF.Z.cell 2 (by simp)
      have z3 : (_ : Option Value) = some (.int .i64 0) := HF.Z.cell 3 (by simp)
      have z4 : (_ : Option Value) = some (.slice none 0 0) := HF.Z.cell 4 (by simp)
      have hfz := fun j => HF.Z.free j
      go_wp2_with fail
      refine bodyPost_ret (v := .tuple #[.agg #[.int .i64 0, .string ⟨#[]⟩, .int .i64 0, .int .i64 0, .slice none 0 0], .bool false]) (by simp [results, Tryd.results23, go_sem, World.cell?_setCell_other, z0, z1, z2, z3, z4]) rfl ⟨none, 0, by rw [HR.out.1, HR.out.2]; rfl, by rw [HR.out.2]; exact World.ownsRow_nil _ _ _ _, ?_⟩
      have hp : ∀ (W : World) (j : Nat) (u : Value), BB w W → BB w (W.setCell ⟨w.heap.size, j, none⟩ u) := fun W j u h => BB.put h (a := ⟨w.heap.size, j, none⟩) (Nat.le_refl _) u
      exact hp _ _ _ (hp _ _ _ (hp _ _ _ (hp _ _ _ (hp _ _ _ HF.Bw))))
    rw [hV] at va
    obtain ⟨S2, hS2⟩ : ∃ S : ByteArray, (⟨B.toArray⟩ : ByteArray) = S := ⟨_, rfl⟩
    obtain ⟨S1, hS1⟩ : ∃ S : ByteArray, (⟨(xB e).toArray⟩ : ByteArray) = S := ⟨_, rfl⟩
    have hcB : ∀ W : World, RR W 1 (some ⟨bb, 0, none⟩) 16 (bcells B) → (convert 41 9 (.slice (some ⟨bb, 0, none⟩) 16 vc)).run Tryd.prog W = .ok (.string S2) W := fun W h => by
      have := conv_rr (P := Tryd.prog) (src := 41) (dst := 9) Tryd.underlying41 Tryd.underlying5 Tryd.underlying9 h hBl.symm vc
      rwa [hS2] at this
    have hby : ∀ (W : World), CP W X [.int .i64 e.st, .string e.nm, .int .i64 e.nu, .int .i64 e.tl, .slice A5 e.bl.length c5] → RR W 1 A5 e.bl.length (flat fI e.bl) → Calls Tryd.prog 51 #[.pointer (some ⟨X, 0, none⟩)] W fun r w' => ∃ G c, r = .returned (.slice (some ⟨G, 0, none⟩) 16 c) ∧ (convert 41 9 (.slice (some ⟨G, 0, none⟩) 16 c)).run Tryd.prog w' = .ok (.string S1) w' ∧ Below W.heap.size W w' := fun W h1 h2 => by
      refine (l17Bytes_any X c5 e A5 W h1 h2 ok1 ok2 ok9 ⟨ok3, ok4⟩ ⟨ok5, ok6⟩ ⟨ok7, ok8⟩).mono ?_
      rintro r w' ⟨G, c, rfl, hc, hG, M, hB⟩
      refine ⟨G, c, rfl, ?_, hB⟩
      have := MarkB.b2s (P := Tryd.prog) (dst := 9) Tryd.underlying41 Tryd.underlying5 Tryd.underlying9 M c 16 hxl.symm
      rwa [hS1] at this
    by_cases hg2 : xB e = B
    · have HR := V2 hV hg2
      have hcmp : (S1.toList != S2.toList) = false := by rw [← hS1, ← hS2, hg2]; simp
      have hcmp2 : (!(S1.toList == S2.toList)) = false := hcmp
      clear V0 V1 V2 hV hg2 hS1 hS2
      go_wp2_with fail
      go_region_law (first | (go_simp; (go_at_call 50; (with_reducible refine va.mono ?_); rintro r w5 ⟨rfl, hx5⟩; have H5 := (E0.dr H).next hx5; have O5 : OO _ _ _ _ _ _ _ := OO.next (OO.dr O) hx5; have cvB5 := hcB _ H5.R; have by5 := hby w5 (BX.cp H5.F) (RR.own (OOf O5)))) | (go_simp; (go_at_call 51; (with_reducible refine by5.mono ?_); rintro r w6 ⟨G, cG, rfl, cvG, hx6⟩; have H6 := H5.next hx6; have O6 : OO _ _ _ _ _ _ _ := OO.next O5 hx6; have cvB6 := hcB _ H6.R; have x0 : (_ : Option Value) = some (.int .i64 e.st) := H6.F.cell 0 (by simp); have x1 : (_ : Option Value) = some (.string e.nm) := H6.F.cell 1 (by simp); have x2 : (_ : Option Value) = some (.int .i64 e.nu) := H6.F.cell 2 (by simp); have x3 : (_ : Option Value) = some (.int .i64 e.tl) := H6.F.cell 3 (by simp); have x4 : (_ : Option Value) = some (.slice A5 e.bl.length c5) := H6.F.cell 4 (by simp); have z0 : (_ : Option Value) = some (.int .i64 0) := H6.Z.cell 0 (by simp); have z1 : (_ : Option Value) = some (.string ⟨#[]⟩) := H6.Z.cell 1 (by simp); have z2 : (_ : Option Value) = some (.int .i64 0) := H6.Z.cell 2 (by simp); have z3 : (_ : Option Value) = some (.int .i64 0) := H6.Z.cell 3 (by simp); have z4 : (_ : Option Value) = some (.slice none 0 0) := H6.Z.cell 4 (by simp); have hfz := fun j => H6.Z.free j)))
      all_goals
        have HF := H6
        have OF := O6
        clear O5 H5 cvB5 cvB6 cvG
        have HR := Lib.hid HR
        have hXw : X ≠ w.heap.size := by omega
        go_wp2_with fail
        refine bodyPost_ret (v := .tuple #[.agg #[.int .i64 e.st, .string e.nm, .int .i64 e.nu, .int .i64 e.tl, .slice A5 e.bl.length c5], .bool true]) (by simp [results, Tryd.results23, go_sem, World.cell?_setCell_other, z0, z1, z2, z3, z4]) rfl ⟨A5, c5, by rw [HR.out.1, HR.out.2], ?_, ?_⟩
        · rw [HR.out.2]
          have hp : ∀ (W : World) (j : Nat) (u : Value), OO W (X + 1) 2 1 (.slice A5 e.bl.length c5) e.bl.length (flat fI e.bl) → OO (W.setCell ⟨w.heap.size, j, none⟩ u) (X + 1) 2 1 (.slice A5 e.bl.length c5) e.bl.length (flat fI e.bl) := fun W j u h => OO.put h (a := ⟨w.heap.size, j, none⟩) (by show w.heap.size < X + 1; omega) u
          exact own_base (OOf (hp _ _ _ (hp _ _ _ (hp _ _ _ (hp _ _ _ (hp _ _ _ OF)))))) (by omega)
        · have hp : ∀ (W : World) (j : Nat) (u : Value), BB w W → BB w (W.setCell ⟨w.heap.size, j, none⟩ u) := fun W j u h => BB.put h (a := ⟨w.heap.size, j, none⟩) (Nat.le_refl _) u
          exact hp _ _ _ (hp _ _ _ (hp _ _ _ (hp _ _ _ (hp _ _ _ HF.Bw))))
    · have HR := V1 hV hg2
      have hcmp : (S1.toList != S2.toList) = true := by
        rw [bne_iff_ne]
        intro e9
        apply hg2
        rw [← hS1, ← hS2, ByteArray.toList_eq, ByteArray.toList_eq] at e9
        simpa using e9
      have hcmp2 : (!(S1.toList == S2.toList)) = true := hcmp
      clear V0 V1 V2 hV hg2 hS1 hS2
      go_wp2_with fail
      go_region_law (first | (go_simp; (go_at_call 50; (with_reducible refine va.mono ?_); rintro r w5 ⟨rfl, hx5⟩; have H5 := (E0.dr H).next hx5; have O5 : OO _ _ _ _ _ _ _ := OO.next (OO.dr O) hx5; have cvB5 := hcB _ H5.R; have by5 := hby w5 (BX.cp H5.F) (RR.own (OOf O5)))) | (go_simp; (go_at_call 51; (with_reducible refine by5.mono ?_); rintro r w6 ⟨G, cG, rfl, cvG, hx6⟩; have H6 := H5.next hx6; have O6 : OO _ _ _ _ _ _ _ := OO.next O5 hx6; have cvB6 := hcB _ H6.R; have x0 : (_ : Option Value) = some (.int .i64 e.st) := H6.F.cell 0 (by simp); have x1 : (_ : Option Value) = some (.string e.nm) := H6.F.cell 1 (by simp); have x2 : (_ : Option Value) = some (.int .i64 e.nu) := H6.F.cell 2 (by simp); have x3 : (_ : Option Value) = some (.int .i64 e.tl) := H6.F.cell 3 (by simp); have x4 : (_ : Option Value) = some (.slice A5 e.bl.length c5) := H6.F.cell 4 (by simp); have z0 : (_ : Option Value) = some (.int .i64 0) := H6.Z.cell 0 (by simp); have z1 : (_ : Option Value) = some (.string ⟨#[]⟩) := H6.Z.cell 1 (by simp); have z2 : (_ : Option Value) = some (.int .i64 0) := H6.Z.cell 2 (by simp); have z3 : (_ : Option Value) = some (.int .i64 0) := H6.Z.cell 3 (by simp); have z4 : (_ : Option Value) = some (.slice none 0 0) := H6.Z.cell 4 (by simp); have hfz := fun j => H6.Z.free j)))
      all_goals
        have HF := H6
        clear O5 H5 cvB5 cvB6 cvG
        have HR := Lib.hid HR
        go_wp2_with fail
        refine bodyPost_ret (v := .tuple #[.agg #[.int .i64 0, .string ⟨#[]⟩, .int .i64 0, .int .i64 0, .slice none 0 0], .bool false]) (by simp [results, Tryd.results23, go_sem, World.cell?_setCell_other, z0, z1, z2, z3, z4]) rfl ⟨none, 0, by rw [HR.out.1, HR.out.2]; rfl, by rw [HR.out.2]; exact World.ownsRow_nil _ _ _ _, ?_⟩
        have hp : ∀ (W : World) (j : Nat) (u : Value), BB w W → BB w (W.setCell ⟨w.heap.size, j, none⟩ u) := fun W j u h => BB.put h (a := ⟨w.heap.size, j, none⟩) (Nat.le_refl _) u
        exact hp _ _ _ (hp _ _ _ (hp _ _ _ (hp _ _ _ (hp _ _ _ HF.Bw))))
end Go.Proofs.YtbobehieaaaleaaDoor
namespace Go.Proofs.YtbobehieaaaleaaDoor
set_option linter.unusedVariables false
open Go.RowKit

set_option maxHeartbeats 400000 in
theorem isByte_any (x : Int) (w : World) : Calls Tryd.prog 74 #[.int .i64 x] w fun e w' => e = .returned (.bool (inB x 0 255)) ∧ w = w' := by
  have h := fun W => within_any x 0 255 W
  go_enter Tryd.func74, Tryd.ntmps74
  go_wp2_with (go_at_call 19; (with_reducible refine (h _).mono ?_); rintro e w9 ⟨rfl, rfl⟩)
  go_ret
  exact ⟨rfl, rfl⟩
set_option maxHeartbeats 400000 in
theorem noByte_any (x : Int) (w : World) (hx : 0 ≤ x ∧ x ≤ 255) : Calls Tryd.prog 100 #[.int .i64 x] w fun e w' => e = .returned (.bool false) ∧ w = w' := by
  have h := fun W => isByte_any x W
  rw [show inB x 0 255 = true by simp only [inB, Bool.and_eq_true, decide_eq_true_eq]; exact hx] at h
  clear hx
  go_enter Tryd.func100, Tryd.ntmps100
  go_wp2_with (go_at_call 74; (with_reducible refine (h _).mono ?_); rintro e w9 ⟨rfl, rfl⟩)
  go_ret
  exact ⟨rfl, rfl⟩
set_option maxRecDepth 100000 in
set_option maxHeartbeats 1000000 in
theorem indexByte_any (A : Option Addr) (cp : Nat) (bl : List Int) (w : World) (hr : RR w 1 A bl.length (flat fI bl)) (hn : bl.length ≤ 4) (hbb : ∀ x ∈ bl, 0 ≤ x ∧ x ≤ 255) :
    Calls Tryd.prog 115 #[.slice A bl.length cp, .func (.func 100) #[] #[]] w fun e w' => e = .returned (.int .i64 (-1)) ∧ w = w' := by
  have eg := fun args (W : World) => (show (callFunc 100 args).run Tryd.prog W = .ok (.enter 100 args) W from by kernel_rfl)
  go_enter Tryd.func115, Tryd.ntmps115
  go_wp2
  go_loop [5, 8] (fun _ i => ∃ k : Nat, k ≤ bl.length ∧ i = .int .i64 (k : Int)) (fun _ i => bl.length - (intOf i).toNat)
  case atStart => exact ⟨0, Nat.zero_le _, rfl⟩
  case round =>
    obtain ⟨k, hk, rfl⟩ := hrel
    by_cases hlt : k < bl.length
    · have hlti : (k : Int) < (bl.length : Int) := by omega
      obtain ⟨b, off, rfl, hbk, hcc⟩ := Rd.at_ hr fI_len rfl k hlt
      have hc0 := hcc 0 _ (by omega) rfl
      clear hcc
      simp only [Nat.mul_one, Nat.add_zero] at hc0
      have hmem := hbb _ (List.getElem_mem hlt)
      obtain ⟨x, hx⟩ : ∃ x, bl[k] = x := ⟨_, rfl⟩
      rw [hx] at hc0 hmem
      clear hx
      go_wp2_with (go_at_call 100; refine (noByte_any x _ hmem).mono ?_; rintro e w1 ⟨rfl, rfl⟩)
      go_round
      case rel => exact ⟨k + 1, by omega, by go_num⟩
      case measure => simp [intOf]; omega
    · have hlti : ¬ (k : Int) < (bl.length : Int) := by omega
      go_wp2
      go_ret
      exact ⟨rfl, rfl⟩
theorem containsByte_any (A : Option Addr) (cp : Nat) (bl : List Int) (w : World) (hr : RR w 1 A bl.length (flat fI bl)) (hn : bl.length ≤ 4) (hbb : ∀ x ∈ bl, 0 ≤ x ∧ x ≤ 255) :
    Calls Tryd.prog 99 #[.slice A bl.length cp, .func (.func 100) #[] #[]] w fun e w' => e = .returned (.bool false) ∧ w = w' := by
  have h := indexByte_any A cp bl w hr hn hbb
  go_enter Tryd.func99, Tryd.ntmps99
  go_wp2_with (go_at_call 115; refine h.mono ?_; rintro e w1 ⟨rfl, rfl⟩)
  go_ret
  exact ⟨rfl, rfl⟩
set_option maxRecDepth 100000 in
set_option maxHeartbeats 4000000 in
theorem validX_any (g cp : Nat) (e : XE) (A A2 : Option Addr) (b s E X n2 c2 : Nat) (w : World) (d : CP w g [.int .i64 (b : Int), .int .i64 (s : Int), .int .i64 (E : Int), .int .i64 (X : Int), .slice A2 n2 c2]) (hr : RR w 1 A e.bl.length (flat fI e.bl)) (hb : okBl e.bl) (hnm : e.nm.size ≤ 8) (hz : e.st = 0 → e = xe0) :
    Calls Tryd.prog 76 #[.pointer (some ⟨g, 0, none⟩), .agg #[.int .i64 e.st, .string e.nm, .int .i64 e.nu, .int .i64 e.tl, .slice A e.bl.length cp]] w fun r w' => r = .returned (.bool (xV (s : Int) e)) ∧ Below w.heap.size w w' := by
  have x1 : (_ : Option Value) = some (.int .i64 (s : Int)) := CP.al d (.cells #[.int .i64 e.st, .string e.nm, .int .i64 e.nu, .int .i64 e.tl, .slice A e.bl.length cp] 59) 1 (by simp)
  have D := CP.made w [.int .i64 e.st, .string e.nm, .int .i64 e.nu, .int .i64 e.tl, .slice A e.bl.length cp] 59
  have d0 : (_ : Option Value) = some (.int .i64 e.st) := D 0 (by simp)
  have d1 : (_ : Option Value) = some (.string e.nm) := D 1 (by simp)
  have d2 : (_ : Option Value) = some (.int .i64 e.nu) := D 2 (by simp)
  have d3 : (_ : Option Value) = some (.int .i64 e.tl) := D 3 (by simp)
  have d4 : (_ : Option Value) = some (.slice A e.bl.length cp) := D 4 (by simp)
  have hB : BB w (w.alloc (.cells #[.int .i64 e.st, .string e.nm, .int .i64 e.nu, .int .i64 e.tl, .slice A e.bl.length cp] 59)) := BB.al (BB.start w) _
  have hr1 : RR (w.alloc (.cells #[.int .i64 e.st, .string e.nm, .int .i64 e.nu, .int .i64 e.tl, .slice A e.bl.length cp] 59)) 1 A e.bl.length (flat fI e.bl) := RR.al hr _
  clear d hr D
  by_cases h0 : e.st = 0
  · obtain rfl := hz h0
    have hem : ((⟨#[]⟩ : ByteArray).toList == []) = true := by rw [ByteArray.toList_eq]; rfl
    have HR := Lib.hid (xV_0 (s : Int))
    simp only [xe0, List.length_nil] at d0 d1 d2 d3 d4 hB ⊢
    clear hz h0 hb hnm hr1 x1
    go_enter Tryd.func76, Tryd.ntmps76
    go_wp2
    go_ret
    exact ⟨ret_bool HR.out.symm, (by repeat (first | exact Below.refl _ _ | refine below_step ?_ (by assumption) | assumption | refine Below.drew ?_ | refine below_drewN ?_ _ | refine below_alloc ?_ _ | refine Below.setCell ?_ (by simp; try omega) _))⟩
  obtain ⟨hb4, hbb⟩ := hb
  have h0b : (e.st == 0) = false := by simpa using h0
  have V0 := fun h1 h2 => xV_k (s := (s : Int)) h0 h1 h2
  have V1 := fun h => xV_n (s := (s : Int)) h0 h
  have V2 := fun h => xV_q1 (s := (s : Int)) h0 h
  have V3 := fun h => xV_q2 (s := (s : Int)) h0 h
  have V4 := fun hk hn h1 h2 => xV_yes (s := (s : Int)) (e := e) hk hn h1 h2
  obtain ⟨st, nm, nu, tl, bl⟩ := e
  simp only at d0 d1 d2 d3 d4 hB hr1 x1 hb4 hbb hnm h0b V0 V1 V2 V3 V4 ⊢
  generalize xV (s : Int) ⟨st, nm, nu, tl, bl⟩ = R at V0 V1 V2 V3 V4 ⊢
  clear hz h0
  replace V0 := Lib.hid V0
  replace V1 := Lib.hid V1
  replace V2 := Lib.hid V2
  replace V3 := Lib.hid V3
  replace V4 := Lib.hid V4
  have h4 : decide ((bl.length : Int) ≤ 4) = true := decide_eq_true (by omega)
  go_enter Tryd.func76, Tryd.ntmps76
  go_upto_region 3 with fail
  generalize (w.alloc (.cells #[.int .i64 st, .string nm, .int .i64 nu, .int .i64 tl, .slice A bl.length cp] 59)) = w1 at d0 d1 d2 d3 d4 x1 hB hr1 ⊢
  generalize w.heap.size = G at d0 d1 d2 d3 d4 ⊢
  have k0 := gw_cell d0
  have k1 := gw_cell d1
  have k2 := gw_cell d2
  have k3 := gw_cell d3
  have k4 := gw_cell d4
  have kx := gw_cell x1
  have p1 := fun (p' : Regrown) => qb_same p' (impl_IsName_any nm (Sort.grow (redrawn w1 p'.d) p'.os) (by omega))
  have p2 := fun (p' : Regrown) => qb_same p' (within_any nu 0 31 (Sort.grow (redrawn w1 p'.d) p'.os))
  have p3 := fun (p' : Regrown) => qb_same p' (within_any tl 0 (s : Int) (Sort.grow (redrawn w1 p'.d) p'.os))
  cases b1 : (st == 1)
  · have c1 : (st != 1) = true := by rw [bne, b1]; rfl
    cases b2 : (st == 229)
    · have c2' : (st != 229) = true := by rw [bne, b2]; rfl
      have HR := Lib.hid (V0.out b1 b2)
      clear V0 V1 V2 V3 V4 b1 b2 p1 p2 p3
      refine wp_region_quiet_below (by kernel_rfl) (by kernel_rfl) ?_
      repeat (go_big_quiet_step (fail))
      refine wpQuiet_nil ?_
      intro _ hw'
      obtain ⟨pq, hw''⟩ := hw'
      subst hw''
      have hB6 : BB w _ := BB.next hB (gw_below w1 pq)
      have f4 := ((gw_below w1 pq).cell (p := ⟨G, 4, none⟩) (cell_spot d4).2).trans d4
      have hr6 := Rd.gw hr1 pq
      generalize Sort.grow (redrawn w1 pq.d) pq.os = w6 at hB6 f4 hr6 ⊢
      go_wp2_with fail
      go_ret
      exact ⟨ret_bool HR.out.symm, hB6⟩
    · have c2' : (st != 229) = false := by rw [bne, b2]; rfl
      have hk3 : (st == 1) = true ∨ ((st == 1) = false ∧ (st == 229) = true) := Or.inr ⟨b1, b2⟩
      cases n1 : isName nm
      · have HR := Lib.hid (V1.out n1)
        rw [n1] at p1
        clear V0 V1 V2 V3 V4 hk3 n1
        refine wp_region_quiet_below (by kernel_rfl) (by kernel_rfl) ?_
        repeat (go_big_quiet_step (first | with_reducible exact p1 _ | with_reducible exact p2 _ | with_reducible exact p3 _))
        refine wpQuiet_nil ?_
        intro _ hw'
        obtain ⟨pq, hw''⟩ := hw'
        subst hw''
        have hB6 : BB w _ := BB.next hB (gw_below w1 pq)
        have f4 := ((gw_below w1 pq).cell (p := ⟨G, 4, none⟩) (cell_spot d4).2).trans d4
        have hr6 := Rd.gw hr1 pq
        generalize Sort.grow (redrawn w1 pq.d) pq.os = w6 at hB6 f4 hr6 ⊢
        go_wp2_with fail
        go_ret
        exact ⟨ret_bool HR.out.symm, hB6⟩
      rw [n1] at p1
      cases q1 : inB nu 0 31
      · have HR := Lib.hid (V2.out q1)
        rw [q1] at p2
        clear V0 V1 V2 V3 V4 hk3 n1 q1
        refine wp_region_quiet_below (by kernel_rfl) (by kernel_rfl) ?_
        repeat (go_big_quiet_step (first | with_reducible exact p1 _ | with_reducible exact p2 _ | with_reducible exact p3 _))
        refine wpQuiet_nil ?_
        intro _ hw'
        obtain ⟨pq, hw''⟩ := hw'
        subst hw''
        have hB6 : BB w _ := BB.next hB (gw_below w1 pq)
        have f4 := ((gw_below w1 pq).cell (p := ⟨G, 4, none⟩) (cell_spot d4).2).trans d4
        have hr6 := Rd.gw hr1 pq
        generalize Sort.grow (redrawn w1 pq.d) pq.os = w6 at hB6 f4 hr6 ⊢
        go_wp2_with fail
        go_ret
        exact ⟨ret_bool HR.out.symm, hB6⟩
      rw [q1] at p2
      cases q2 : inB tl 0 (s : Int)
      · have HR := Lib.hid (V3.out q2)
        rw [q2] at p3
        clear V0 V1 V2 V3 V4 hk3 n1 q1 q2
        refine wp_region_quiet_below (by kernel_rfl) (by kernel_rfl) ?_
        repeat (go_big_quiet_step (first | with_reducible exact p1 _ | with_reducible exact p2 _ | with_reducible exact p3 _))
        refine wpQuiet_nil ?_
        intro _ hw'
        obtain ⟨pq, hw''⟩ := hw'
        subst hw''
        have hB6 : BB w _ := BB.next hB (gw_below w1 pq)
        have f4 := ((gw_below w1 pq).cell (p := ⟨G, 4, none⟩) (cell_spot d4).2).trans d4
        have hr6 := Rd.gw hr1 pq
        generalize Sort.grow (redrawn w1 pq.d) pq.os = w6 at hB6 f4 hr6 ⊢
        go_wp2_with fail
        go_ret
        exact ⟨ret_bool HR.out.symm, hB6⟩
      rw [q2] at p3
      have HR := Lib.hid (V4.out hk3 n1 q1 q2)
      clear V0 V1 V2 V3 V4 hk3 n1 q1 q2
      refine wp_region_quiet_below (by kernel_rfl) (by kernel_rfl) ?_
      repeat (go_big_quiet_step (first | with_reducible exact p1 _ | with_reducible exact p2 _ | with_reducible exact p3 _))
      refine wpQuiet_nil ?_
      intro _ hw'
      obtain ⟨pq, hw''⟩ := hw'
      subst hw''
      have hB6 : BB w _ := BB.next hB (gw_below w1 pq)
      have f4 := ((gw_below w1 pq).cell (p := ⟨G, 4, none⟩) (cell_spot d4).2).trans d4
      have hr6 := Rd.gw hr1 pq
      generalize Sort.grow (redrawn w1 pq.d) pq.os = w6 at hB6 f4 hr6 ⊢
      have hcf := containsByte_any A cp bl w6 hr6 hb4 hbb
      go_wp2_with (go_at_call 99; refine hcf.mono ?_; rintro e w9 ⟨rfl, rfl⟩)
      go_ret
      exact ⟨ret_bool HR.out.symm, hB6⟩
  · have c1 : (st != 1) = false := by rw [bne, b1]; rfl
    have hk3 : (st == 1) = true ∨ ((st == 1) = false ∧ (st == 229) = true) := Or.inl b1
    cases n1 : isName nm
    · have HR := Lib.hid (V1.out n1)
      rw [n1] at p1
      clear V0 V1 V2 V3 V4 hk3 n1
      refine wp_region_quiet_below (by kernel_rfl) (by kernel_rfl) ?_
      repeat (go_big_quiet_step (first | with_reducible exact p1 _ | with_reducible exact p2 _ | with_reducible exact p3 _))
      refine wpQuiet_nil ?_
      intro _ hw'
      obtain ⟨pq, hw''⟩ := hw'
      subst hw''
      have hB6 : BB w _ := BB.next hB (gw_below w1 pq)
      have f4 := ((gw_below w1 pq).cell (p := ⟨G, 4, none⟩) (cell_spot d4).2).trans d4
      have hr6 := Rd.gw hr1 pq
      generalize Sort.grow (redrawn w1 pq.d) pq.os = w6 at hB6 f4 hr6 ⊢
      go_wp2_with fail
      go_ret
      exact ⟨ret_bool HR.out.symm, hB6⟩
    rw [n1] at p1
    cases q1 : inB nu 0 31
    · have HR := Lib.hid (V2.out q1)
      rw [q1] at p2
      clear V0 V1 V2 V3 V4 hk3 n1 q1
      refine wp_region_quiet_below (by kernel_rfl) (by kernel_rfl) ?_
      repeat (go_big_quiet_step (first | with_reducible exact p1 _ | with_reducible exact p2 _ | with_reducible exact p3 _))
      refine wpQuiet_nil ?_
      intro _ hw'
      obtain ⟨pq, hw''⟩ := hw'
      subst hw''
      have hB6 : BB w _ := BB.next hB (gw_below w1 pq)
      have f4 := ((gw_below w1 pq).cell (p := ⟨G, 4, none⟩) (cell_spot d4).2).trans d4
      have hr6 := Rd.gw hr1 pq
      generalize Sort.grow (redrawn w1 pq.d) pq.os = w6 at hB6 f4 hr6 ⊢
      go_wp2_with fail
      go_ret
      exact ⟨ret_bool HR.out.symm, hB6⟩
    rw [q1] at p2
    cases q2 : inB tl 0 (s : Int)
    · have HR := Lib.hid (V3.out q2)
      rw [q2] at p3
      clear V0 V1 V2 V3 V4 hk3 n1 q1 q2
      refine wp_region_quiet_below (by kernel_rfl) (by kernel_rfl) ?_
      repeat (go_big_quiet_step (first | with_reducible exact p1 _ | with_reducible exact p2 _ | with_reducible exact p3 _))
      refine wpQuiet_nil ?_
      intro _ hw'
      obtain ⟨pq, hw''⟩ := hw'
      subst hw''
      have hB6 : BB w _ := BB.next hB (gw_below w1 pq)
      have f4 := ((gw_below w1 pq).cell (p := ⟨G, 4, none⟩) (cell_spot d4).2).trans d4
      have hr6 := Rd.gw hr1 pq
      generalize Sort.grow (redrawn w1 pq.d) pq.os = w6 at hB6 f4 hr6 ⊢
      go_wp2_with fail
      go_ret
      exact ⟨ret_bool HR.out.symm, hB6⟩
    rw [q2] at p3
    have HR := Lib.hid (V4.out hk3 n1 q1 q2)
    clear V0 V1 V2 V3 V4 hk3 n1 q1 q2
    refine wp_region_quiet_below (by kernel_rfl) (by kernel_rfl) ?_
    repeat (go_big_quiet_step (first | with_reducible exact p1 _ | with_reducible exact p2 _ | with_reducible exact p3 _))
    refine wpQuiet_nil ?_
    intro _ hw'
    obtain ⟨pq, hw''⟩ := hw'
    subst hw''
    have hB6 : BB w _ := BB.next hB (gw_below w1 pq)
    have f4 := ((gw_below w1 pq).cell (p := ⟨G, 4, none⟩) (cell_spot d4).2).trans d4
    have hr6 := Rd.gw hr1 pq
    generalize Sort.grow (redrawn w1 pq.d) pq.os = w6 at hB6 f4 hr6 ⊢
    have hcf := containsByte_any A cp bl w6 hr6 hb4 hbb
    go_wp2_with (go_at_call 99; refine hcf.mono ?_; rintro e w9 ⟨rfl, rfl⟩)
    go_ret
    exact ⟨ret_bool HR.out.symm, hB6⟩
end Go.Proofs.YtbobehieaaaleaaDoor
