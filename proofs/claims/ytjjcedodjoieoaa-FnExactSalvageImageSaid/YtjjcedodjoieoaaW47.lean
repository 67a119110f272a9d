/- Walks: DecodeChunks. -/
import Derived.Test.YtjjcedodjoieoaaW46
import Derived.Test.YtjjcedodjoieoaaSChunk
import Derived.Test.YtjjcedodjoieoaaMem5
import Derived.Test.YtjjcedodjoieoaaW61
namespace Go.Proofs.Ytjjcedodjoieoaa
open Go.RowKit
set_option linter.unusedVariables false

theorem eltChunk : Elt Try.prog 45 47 2 24 (.agg #[.int .i64 0, .string ByteArray.empty]) := Elt.mk' Try.underlying45 (by kernel_rfl) rfl (by decide)
def rDcAt (r : Option (Nat × ByteArray × Nat)) (a : Nat) : Ending :=
  match r with
  | none => .returned (.tuple #[.agg #[.int .i64 0, .string ⟨#[]⟩], .int .i64 (-1)])
  | some (k, d, m) => .returned (.tuple #[.agg #[.int .i64 k, .string d], .int .i64 ((a + m : Nat) : Int)])
theorem dcAt_le {s : ByteArray} {a k m : Nat} {d : ByteArray} (h : dcAt s a = some (k, d, m)) (ha : a ≤ s.size) : a + m ≤ s.size ∧ d.size ≤ s.size := by
  unfold dcAt dc at h
  split at h
  · cases h
  · split at h
    · rename_i h5 h8
      split at h
      · injection h with h
        injection h with h1 h
        injection h with h2 h3
        subst h2 h3
        rw [ext_size] at h8 h5
        refine ⟨by omega, ?_⟩
        rw [ByteArray.size_extract, ext_size]
        omega
      · cases h
    · cases h

set_option maxRecDepth 100000 in
set_option maxHeartbeats 1000000 in
theorem l13At_any (s : ByteArray) (a : Nat) (w : World) (hs : s.size ≤ 1048576) (ha : a ≤ s.size) :
    Calls Try.prog 21 #[.string s, .int .i64 (a : Int)] w fun e w' => e = rDcAt (dcAt s a) a ∧ Below w.heap.size w w' := by
  by_cases h5 : s.size < a + 5
  · have HR := Lib.hid (dcAt_1 h5)
    have g : (s.size : Int) < (a : Int) + 5 := by omega
    go_enter Try.func21, Try.ntmps21
    go_wp2
    exact bodyPost_ret (v := .tuple #[.agg #[.int .i64 0, .string ⟨#[]⟩], .int .i64 (-1)]) (by simp [results, Try.results21, go_sem]) rfl ⟨by rw [HR.out]; rfl, (by with_reducible repeat (first | exact Below.refl _ _ | assumption | refine below_step ?_ (by assumption) | refine Below.drew ?_ | refine below_drewN ?_ _ | refine below_alloc ?_ _ | refine Below.setCell ?_ (by simp; try omega) _))⟩
  have h5' : a + 5 ≤ s.size := by omega
  have g5 : ¬ (s.size : Int) < (a : Int) + 5 := by omega
  have e0 := bt_eq s a (by omega)
  have b0 := bt_lt s a
  have halt : a < s.size := by omega
  obtain ⟨n, hn⟩ : ∃ n, wd s (a + 1) = n := ⟨_, rfl⟩
  obtain ⟨a1, ha1⟩ : ∃ a1 : Nat, a1 = a + 1 := ⟨_, rfl⟩
  have hget := fun W => l01Get_any s a1 W hs (by omega)
  rw [ha1, hn] at hget
  rw [← ha1] at hget
  have hn2 := wd_lt s (a + 1)
  rw [hn] at hn2
  obtain ⟨e, he⟩ : ∃ e : Nat, e = a + 3 + n := ⟨_, rfl⟩
  have f8 : IntKind.i64.wrap ((bt s a : Nat) : Int) = ((bt s a : Nat) : Int) := IntWalk.i64_in _ (by omega)
  have f1 : IntKind.i64.wrap ((a : Int) + 1) = (a1 : Int) := by subst ha1; exact (IntWalk.i64_in _ (by omega)).trans (by omega)
  have f3 : IntKind.i64.wrap ((a : Int) + 3 + (n : Int)) = (e : Int) := by subst he; exact (IntWalk.i64_in _ (by omega)).trans (by omega)
  have hae : a ≤ e := by omega
  have he4 : e ≤ 10000000 := by omega
  have HN := Lib.hid hn
  have HE := Lib.hid he
  have HA1 := Lib.hid ha1
  clear hn ha1
  by_cases h8 : ¬ (n ≤ 8192 ∧ a + 3 + n + 2 ≤ s.size)
  · have HR := Lib.hid (dcAt_2 h5' HN.out h8)
    by_cases h81 : s.size < e + 2
    · have g1 : (s.size : Int) < (e : Int) + 2 := by omega
      clear he h8
      go_enter Try.func21, Try.ntmps21
      go_wp2_with (go_at_call 53; refine (hget _).mono ?_; rintro e w1 ⟨rfl, k, rfl⟩)
      exact bodyPost_ret (v := .tuple #[.agg #[.int .i64 0, .string ⟨#[]⟩], .int .i64 (-1)]) (by simp [results, Try.results21, go_sem]) rfl ⟨by rw [HR.out]; rfl, (by with_reducible repeat (first | exact Below.refl _ _ | assumption | refine below_step ?_ (by assumption) | refine Below.drew ?_ | refine below_drewN ?_ _ | refine below_alloc ?_ _ | refine Below.setCell ?_ (by simp; try omega) _))⟩
    · have g1 : ¬ (s.size : Int) < (e : Int) + 2 := by omega
      have g2 : (8192 : Int) < (n : Int) := by omega
      clear he h8
      go_enter Try.func21, Try.ntmps21
      go_wp2_with (go_at_call 53; refine (hget _).mono ?_; rintro e w1 ⟨rfl, k, rfl⟩)
      exact bodyPost_ret (v := .tuple #[.agg #[.int .i64 0, .string ⟨#[]⟩], .int .i64 (-1)]) (by simp [results, Try.results21, go_sem]) rfl ⟨by rw [HR.out]; rfl, (by with_reducible repeat (first | exact Below.refl _ _ | assumption | refine below_step ?_ (by assumption) | refine Below.drew ?_ | refine below_drewN ?_ _ | refine below_alloc ?_ _ | refine Below.setCell ?_ (by simp; try omega) _))⟩
  obtain ⟨h81, h82⟩ : n ≤ 8192 ∧ a + 3 + n + 2 ≤ s.size := by omega
  have g1 : ¬ (s.size : Int) < (e : Int) + 2 := by omega
  have g2 : ¬ (8192 : Int) < (n : Int) := by omega
  have hes : e ≤ s.size := by omega
  have hesi : (e : Int) ≤ (s.size : Int) := by omega
  have haei : (a : Int) ≤ (e : Int) := by omega
  obtain ⟨a3, ha3⟩ : ∃ a3 : Nat, a3 = a + 3 := ⟨_, rfl⟩
  have f4 : IntKind.i64.wrap ((a : Int) + 3) = (a3 : Int) := by subst ha3; exact (IntWalk.i64_in _ (by omega)).trans (by omega)
  have f5 : IntKind.i64.wrap ((a3 : Int) + (n : Int)) = (e : Int) := by subst ha3; exact (IntWalk.i64_in _ (by omega)).trans (by omega)
  have ha3e : (a3 : Int) ≤ (e : Int) := by omega
  have ha3n : a3 ≤ e := by omega
  have f6 : IntKind.i64.wrap ((e : Int) + 2) = (e : Int) + 2 := IntWalk.i64_in _ (by omega)
  have hcc := fun W => l01Crc_any (s.extract a e) 65535 W (by rw [ByteArray.size_extract]; omega) (by omega)
  have hgt := fun W => l01Get_any s e W hs (by omega)
  have hck := fun W => l13Chunk_any (bt s a : Int) (s.extract a3 e) W (by rw [ByteArray.size_extract]; unfold maxLen; omega)
  have HD3 := Lib.hid (fun (h : ¬ (okChunk (bt s a : Int) (s.extract a3 e) = true ∧ crcOf (s.extract a e) 65535 = wd s e)) => dcAt_3 h5' HN.out h82 (by rw [← HE.out, ← ha3]; exact h))
  have HD4 := Lib.hid (fun (h : okChunk (bt s a : Int) (s.extract a3 e) = true ∧ crcOf (s.extract a e) 65535 = wd s e) => dcAt_4 h5' HN.out h81 h82 (by rw [← HE.out, ← ha3]; exact h))
  have HA3 := Lib.hid ha3
  have hw2 := wd_lt s e
  have HE2 := Lib.hid (show e + 2 = a + (n + 5) by omega)
  clear ha3 he h8
  by_cases hcr : crcOf (s.extract a e) 65535 = wd s e
  case neg =>
    have HR := Lib.hid (HD3.out (fun h => hcr h.2))
    have g3 : (((crcOf (s.extract a e) 65535 : Nat) : Int) != ((wd s e : Nat) : Int)) = true := by simp; omega
    generalize crcOf (s.extract a e) 65535 = y at *
    generalize wd s e = y2 at *
    clear hcr
    go_enter Try.func21, Try.ntmps21
    go_wp2_with (first
      | (go_at_call 53; have := m1; refine (hgt _).mono ?_; rintro e w1 ⟨rfl, k2, rfl⟩)
      | (go_at_call 53; refine (hget _).mono ?_; rintro e w1 ⟨rfl, k, rfl⟩; have m1 := True.intro)
      | (go_at_call 54; refine (hcc _).mono ?_; rintro e w2 ⟨rfl, rfl⟩))
    exact bodyPost_ret (v := .tuple #[.agg #[.int .i64 0, .string ⟨#[]⟩], .int .i64 (-1)]) (by simp [results, Try.results21, go_sem]) rfl ⟨by rw [HR.out]; rfl, (by with_reducible repeat (first | exact Below.refl _ _ | assumption | refine below_step ?_ (by assumption) | refine Below.drew ?_ | refine below_drewN ?_ _ | refine below_alloc ?_ _ | refine Below.setCell ?_ (by simp; try omega) _))⟩
  case pos =>
    rw [hcr] at hcc
    have HCR := Lib.hid hcr
    clear hcr
    generalize wd s e = y2 at *
    cases hok : okChunk (bt s a : Int) (s.extract a3 e)
    · have HR := Lib.hid (HD3.out (fun h => by rw [hok] at h; cases h.1))
      rw [hok] at hck
      go_enter Try.func21, Try.ntmps21
      go_wp2_with (first
        | (go_at_call 53; have := m1; refine (hgt _).mono ?_; rintro e9 w1 ⟨rfl, k2, rfl⟩)
        | (go_at_call 53; refine (hget _).mono ?_; rintro e9 w1 ⟨rfl, k, rfl⟩; have m1 := True.intro)
        | (go_at_call 54; refine (hcc _).mono ?_; rintro e9 w2 ⟨rfl, rfl⟩)
        | (go_at_call 55; refine (hck _).mono ?_; rintro e9 w3 ⟨rfl, hx⟩; obtain ⟨hc, hf⟩ := bcell hx; have hB : Below w.heap.size w w3 := (by with_reducible repeat (first | exact Below.refl _ _ | assumption | refine below_step ?_ (by assumption) | refine Below.drew ?_ | refine below_drewN ?_ _ | refine below_alloc ?_ _ | refine Below.setCell ?_ (by simp; try omega) _)); have z0 : w3.cell? ⟨w.heap.size, 0, none⟩ = some (.int .i64 0) := (by rw [hc _ _ (by simp; try omega)]; simp [go_sem, World.cell?_setCell_other]); have z1 : w3.cell? ⟨w.heap.size, 1, none⟩ = some (.string ⟨#[]⟩) := (by rw [hc _ _ (by simp; try omega)]; simp [go_sem, World.cell?_setCell_other]); have y0 : w3.cell? ⟨w.heap.size + 1, 0, none⟩ = some (.int .i64 ((bt s a : Nat) : Int)) := (by rw [hc _ _ (by simp; try omega)]; simp [go_sem, World.cell?_setCell_other]); have y1 : w3.cell? ⟨w.heap.size + 1, 1, none⟩ = some (.string (s.extract a3 e)) := (by rw [hc _ _ (by simp; try omega)]; simp [go_sem]); have hfz : ∀ j, w3.frozen? ⟨w.heap.size, j, none⟩ = false := (by intro j; rw [hf _ _ (by simp; try omega)]; simp [go_sem])))
      exact bodyPost_ret (v := .tuple #[.agg #[.int .i64 0, .string ⟨#[]⟩], .int .i64 (-1)]) (by simp [results, Try.results21, go_sem, World.cell?_setCell_other, z0, z1]) rfl ⟨by rw [HR.out]; rfl, (by with_reducible repeat (first | exact Below.refl _ _ | assumption | refine below_step ?_ (by assumption) | refine Below.drew ?_ | refine below_drewN ?_ _ | refine below_alloc ?_ _ | refine Below.setCell ?_ (by simp; try omega) _))⟩
    · have HR := Lib.hid (HD4.out ⟨hok, HCR.out⟩)
      rw [hok] at hck
      go_enter Try.func21, Try.ntmps21
      go_wp2_with (first
        | (go_at_call 53; have := m1; refine (hgt _).mono ?_; rintro e9 w1 ⟨rfl, k2, rfl⟩)
        | (go_at_call 53; refine (hget _).mono ?_; rintro e9 w1 ⟨rfl, k, rfl⟩; have m1 := True.intro)
        | (go_at_call 54; refine (hcc _).mono ?_; rintro e9 w2 ⟨rfl, rfl⟩)
        | (go_at_call 55; refine (hck _).mono ?_; rintro e9 w3 ⟨rfl, hx⟩; obtain ⟨hc, hf⟩ := bcell hx; have hB : Below w.heap.size w w3 := (by with_reducible repeat (first | exact Below.refl _ _ | assumption | refine below_step ?_ (by assumption) | refine Below.drew ?_ | refine below_drewN ?_ _ | refine below_alloc ?_ _ | refine Below.setCell ?_ (by simp; try omega) _)); have z0 : w3.cell? ⟨w.heap.size, 0, none⟩ = some (.int .i64 0) := (by rw [hc _ _ (by simp; try omega)]; simp [go_sem, World.cell?_setCell_other]); have z1 : w3.cell? ⟨w.heap.size, 1, none⟩ = some (.string ⟨#[]⟩) := (by rw [hc _ _ (by simp; try omega)]; simp [go_sem, World.cell?_setCell_other]); have y0 : w3.cell? ⟨w.heap.size + 1, 0, none⟩ = some (.int .i64 ((bt s a : Nat) : Int)) := (by rw [hc _ _ (by simp; try omega)]; simp [go_sem, World.cell?_setCell_other]); have y1 : w3.cell? ⟨w.heap.size + 1, 1, none⟩ = some (.string (s.extract a3 e)) := (by rw [hc _ _ (by simp; try omega)]; simp [go_sem]); have hfz : ∀ j, w3.frozen? ⟨w.heap.size, j, none⟩ = false := (by intro j; rw [hf _ _ (by simp; try omega)]; simp [go_sem])))
      exact bodyPost_ret (v := .tuple #[.agg #[.int .i64 (bt s a : Nat), .string (s.extract a3 e)], .int .i64 ((e : Int) + 2)]) (by simp [results, Try.results21, go_sem, World.cell?_setCell_other, z0, z1]) rfl ⟨by rw [HR.out]; rw [← HE.out, ← HA3.out]; show Ending.returned (.tuple #[_, .int .i64 ((e : Int) + 2)]) = Ending.returned (.tuple #[_, .int .i64 ((a + (n + 5) : Nat) : Int)]); rw [← HE2.out]; rfl, (by with_reducible repeat (first | exact Below.refl _ _ | assumption | refine below_step ?_ (by assumption) | refine Below.drew ?_ | refine below_drewN ?_ _ | refine below_alloc ?_ _ | refine Below.setCell ?_ (by simp; try omega) _))⟩

/-- The chunks from a place on, and the place behind them. -/
def dkG (s : ByteArray) : Nat → Nat → List DChunk × Nat
  | 0, a => ([], a)
  | f + 1, a => match dcAt s a with
    | none => ([], a)
    | some (k, d, m) => (⟨(k : Int), d⟩ :: (dkG s f (a + m)).1, (dkG s f (a + m)).2)
theorem dkG_0 {s : ByteArray} {a : Nat} : dkG s 0 a = ([], a) := rfl
theorem dkG_no {s : ByteArray} {f a : Nat} (h : dcAt s a = none) : dkG s f a = ([], a) := by
  cases f with
  | zero => rfl
  | succ f => simp only [dkG, h]
theorem dkG_yes {s : ByteArray} {f a k m : Nat} {d : ByteArray} (h : dcAt s a = some (k, d, m)) : dkG s (f + 1) a = (⟨(k : Int), d⟩ :: (dkG s f (a + m)).1, (dkG s f (a + m)).2) := by
  simp only [dkG, h]
theorem dkG_len (s : ByteArray) : ∀ (f a : Nat), (dkG s f a).1.length ≤ f
  | 0, a => by simp [dkG]
  | f + 1, a => by
    cases h : dcAt s a with
    | none => rw [dkG_no h]; simp
    | some r =>
      obtain ⟨k, d, m⟩ := r
      rw [dkG_yes h]
      have := dkG_len s f (a + m)
      simp only [List.length_cons]
      omega
def dkL (s : ByteArray) : List DChunk := (dkG s 40 0).1
def dkN (s : ByteArray) : Nat := (dkG s 40 0).2
theorem dkL_len (s : ByteArray) : (dkL s).length ≤ 40 := dkG_len s 40 0
/-- What the loop holds on to. -/
def DkI (s : ByteArray) (out : List DChunk) (f a : Nat) : Prop := out ++ (dkG s f a).1 = dkL s ∧ (dkG s f a).2 = dkN s
theorem DkI.start (s : ByteArray) : DkI s [] 40 0 := ⟨rfl, rfl⟩
theorem DkI.next {s : ByteArray} {out : List DChunk} {f a k m : Nat} {d : ByteArray} (h : DkI s out (f + 1) a) (g : dcAt s a = some (k, d, m)) : DkI s (out ++ [⟨(k : Int), d⟩]) f (a + m) := by
  obtain ⟨h1, h2⟩ := h
  rw [dkG_yes g] at h1 h2
  exact ⟨by rw [List.append_assoc]; exact h1, h2⟩
theorem DkI.stop {s : ByteArray} {out : List DChunk} {f a : Nat} (h : DkI s out f a) (g : dkG s f a = ([], a)) : out = dkL s ∧ a = dkN s := by
  obtain ⟨h1, h2⟩ := h
  rw [g] at h1 h2
  exact ⟨by simpa using h1, h2⟩

set_option maxRecDepth 100000 in
set_option maxHeartbeats 1000000 in
theorem spec_DecodeChunks_any (s : ByteArray) (w : World) (hs : s.size ≤ 1048576) :
    Calls Try.prog 42 #[.string s] w fun e w' => ∃ v, e = .returned (.tuple #[v, .int .i64 (dkN s : Nat)]) ∧ w'.ownsRow w.heap.size 47 2 v (dkL s).length (flat fChunk (dkL s)) ∧ Below w.heap.size w w' := by
  have hI := DkI.start s
  go_enter Try.func42, Try.ntmps42
  go_wp2
  go_loopw [4, 5, 6, 7] (fun v i _ _ wr => ∃ (f a : Nat) (out : List DChunk), out.length + f = 40 ∧ a ≤ s.size ∧ i = .int .i64 a ∧ wr.ownsRow w.heap.size 47 2 v out.length (flat fChunk out) ∧ Below w.heap.size w wr ∧ Hid (DkI s out f a)) (fun _ i _ _ _ => s.size + 1 - (intOf i).toNat)
  case atStart => exact ⟨40, 0, [], rfl, Nat.zero_le _, rfl, own_lit0 _ _, (by with_reducible repeat (first | exact Below.refl _ _ | assumption | refine below_step ?_ (by assumption) | refine Below.drew ?_ | refine below_drewN ?_ _ | refine below_alloc ?_ _ | refine Below.setCell ?_ (by simp; try omega) _)), Lib.hid hI⟩
  case round =>
    obtain ⟨f, a, out, hf, ha, rfl, hown, hb, HI⟩ := hrel
    obtain ⟨A, cp, rfl⟩ := own_form hown
    have hsz := hb.size
    have hat := fun W => l13At_any s a W hs ha
    by_cases h40 : out.length < 40
    · have g40 : (out.length : Int) < 40 := by omega
      obtain ⟨f', rfl⟩ : ∃ f', f = f' + 1 := ⟨f - 1, by omega⟩
      rcases hdc : dcAt s a with _ | ⟨k, d, m⟩
      · obtain ⟨e1, e2⟩ := HI.out.stop (dkG_no hdc)
        have H1 := Lib.hid e1
        have H2 := Lib.hid e2
        rw [hdc] at hat
        simp only [rDcAt] at hat
        clear e1 e2 hdc
        go_wp2_with (go_at_call 21; refine (hat _).mono ?_; rintro e w1 ⟨rfl, hx⟩; replace hown : OO _ _ _ _ _ _ _ := OO.next hown hx; replace hb := below_step hb hx)
        go_ret2
        exact ⟨_, by rw [← H2.out]; rfl, by rw [← H1.out]; exact World.ownsRow.alloc (OOf hown) _, (by with_reducible repeat (first | exact Below.refl _ _ | assumption | refine below_step ?_ (by assumption) | refine Below.drew ?_ | refine below_drewN ?_ _ | refine below_alloc ?_ _ | refine Below.setCell ?_ (by simp; try omega) _))⟩
      · obtain ⟨l1, l2⟩ := dcAt_le hdc ha
        have HN := Lib.hid (HI.out.next hdc)
        rw [hdc] at hat
        simp only [rDcAt] at hat
        have hm : 1 ≤ m := by
          unfold dcAt dc at hdc
          split at hdc
          · cases hdc
          · split at hdc
            · split at hdc
              · injection hdc with hdc
                injection hdc with h1 hdc
                injection hdc with h2 h3
                omega
              · cases hdc
            · cases hdc
        obtain ⟨a', ha'⟩ : ∃ a', a' = a + m := ⟨_, rfl⟩
        rw [← ha'] at hat HN
        have hpos : ¬ ((a' : Int) < 0) := by omega
        clear hdc
        go_wp2_with (first
          | (go_at_call 21; refine (hat _).mono ?_; rintro e w1 ⟨rfl, hx⟩; replace hown : OO _ _ _ _ _ _ _ := OO.al (OO.next hown hx) (.cells #[.int .i64 k, .string d] 47); replace hb := below_alloc (below_step hb hx) (.cells #[.int .i64 k, .string d] 47))
          | (at_builtin; go_must (refine wpList_appF (f := fChunk) rfl _ _ _ rfl eltChunk (by omega) _ out rfl (OOf hown) _ _ ⟨(k : Int), d⟩ _ (by rw [World.size_alloc]; rfl) rfl rfl (by intro u hu; simp only [fChunk, List.mem_cons, List.not_mem_nil, or_false] at hu; rcases hu with rfl | rfl <;> rfl) (by omega) hb.size ?_); intro v3 w3 hown3 hg3 hat3 hbl3))
        go_roundw
        case rel => exact ⟨f', a', _, by rw [List.length_append, List.length_singleton]; omega, by omega, by go_num, hown3, hb.trans hbl3, HN⟩
        case measure => (simp [intOf] <;> omega)
    · have g40 : ¬ (out.length : Int) < 40 := by omega
      obtain rfl : f = 0 := by omega
      obtain ⟨e1, e2⟩ := HI.out.stop dkG_0
      have H1 := Lib.hid e1
      have H2 := Lib.hid e2
      clear e1 e2
      go_wp2
      go_ret2
      exact ⟨_, by rw [← H2.out]; rfl, by rw [← H1.out]; exact hown, hb⟩

set_option maxRecDepth 100000 in
set_option maxHeartbeats 1000000 in
theorem impl_DecodeChunks_any (s : ByteArray) (w : World) (hs : s.size ≤ 1048576) :
    Calls Try.prog 34 #[.string s] w fun e w' => ∃ v, e = .returned (.tuple #[v, .int .i64 (dkN s : Nat)]) ∧ w'.ownsRow w.heap.size 47 2 v (dkL s).length (flat fChunk (dkL s)) ∧ Below w.heap.size w w' := by
  have hI := DkI.start s
  go_enter Try.func34, Try.ntmps34
  go_wp2
  go_loopw [4, 5, 6, 7, 8] (fun v i _ _ _ wr => ∃ (f a : Nat) (out : List DChunk), out.length + f = 40 ∧ a ≤ s.size ∧ i = .int .i64 a ∧ wr.ownsRow w.heap.size 47 2 v out.length (flat fChunk out) ∧ Below w.heap.size w wr ∧ Hid (DkI s out f a)) (fun _ i _ _ _ _ => s.size + 1 - (intOf i).toNat)
  case atStart => exact ⟨40, 0, [], rfl, Nat.zero_le _, rfl, World.ownsRow_nil _ _ _ _, (by with_reducible repeat (first | exact Below.refl _ _ | assumption | refine below_step ?_ (by assumption) | refine Below.drew ?_ | refine below_drewN ?_ _ | refine below_alloc ?_ _ | refine Below.setCell ?_ (by simp; try omega) _)), Lib.hid hI⟩
  case round =>
    obtain ⟨f, a, out, hf, ha, rfl, hown, hb, HI⟩ := hrel
    obtain ⟨A, cp, rfl⟩ := own_form hown
    have hsz := hb.size
    have hai : (a : Int) ≤ (s.size : Int) := by omega
    have hat := fun W => decodeChunk_any (s.extract a s.size) W (by rw [ext_size]; omega)
    rw [show dc (s.extract a s.size) = dcAt s a from rfl] at hat
    by_cases h40 : out.length < 40
    · have g40 : (out.length : Int) < 40 := by omega
      obtain ⟨f', rfl⟩ : ∃ f', f = f' + 1 := ⟨f - 1, by omega⟩
      rcases hdc : dcAt s a with _ | ⟨k, d, m⟩
      · obtain ⟨e1, e2⟩ := HI.out.stop (dkG_no hdc)
        have H1 := Lib.hid e1
        have H2 := Lib.hid e2
        rw [hdc] at hat
        simp only [rDc] at hat
        clear e1 e2 hdc
        go_wp2_with (go_at_call 24; refine (hat _).mono ?_; rintro e w1 ⟨rfl, hx⟩; replace hown : OO _ _ _ _ _ _ _ := OO.next hown hx; replace hb := below_step hb hx)
        go_ret2
        exact ⟨_, by rw [← H2.out]; rfl, by rw [← H1.out]; exact World.ownsRow.alloc (OOf hown) _, (by with_reducible repeat (first | exact Below.refl _ _ | assumption | refine below_step ?_ (by assumption) | refine Below.drew ?_ | refine below_drewN ?_ _ | refine below_alloc ?_ _ | refine Below.setCell ?_ (by simp; try omega) _))⟩
      · obtain ⟨l1, l2⟩ := dcAt_le hdc ha
        have HN := Lib.hid (HI.out.next hdc)
        rw [hdc] at hat
        simp only [rDc] at hat
        have hm : 1 ≤ m := by
          unfold dcAt dc at hdc
          split at hdc
          · cases hdc
          · split at hdc
            · split at hdc
              · injection hdc with hdc
                injection hdc with h1 hdc
                injection hdc with h2 h3
                omega
              · cases hdc
            · cases hdc
        clear hdc
        go_wp2_with (first
          | (go_at_call 24; refine (hat _).mono ?_; rintro e w1 ⟨rfl, hx⟩; replace hown : OO _ _ _ _ _ _ _ := OO.al (OO.next hown hx) (.cells #[.int .i64 k, .string d] 47); replace hb := below_alloc (below_step hb hx) (.cells #[.int .i64 k, .string d] 47))
          | (at_builtin; go_must (refine wpList_appF (f := fChunk) rfl _ _ _ rfl eltChunk (by omega) _ out rfl (OOf hown) _ _ ⟨(k : Int), d⟩ _ (by rw [World.size_alloc]; rfl) rfl rfl (by intro u hu; simp only [fChunk, List.mem_cons, List.not_mem_nil, or_false] at hu; rcases hu with rfl | rfl <;> rfl) (by omega) hb.size ?_); intro v3 w3 hown3 hg3 hat3 hbl3))
        go_roundw
        case rel => exact ⟨f', a + m, _, by rw [List.length_append, List.length_singleton]; omega, by omega, by go_num, hown3, hb.trans hbl3, HN⟩
        case measure => (simp [intOf] <;> omega)
    · have g40 : ¬ (out.length : Int) < 40 := by omega
      obtain rfl : f = 0 := by omega
      obtain ⟨e1, e2⟩ := HI.out.stop dkG_0
      have H1 := Lib.hid e1
      have H2 := Lib.hid e2
      clear e1 e2
      go_wp2
      go_ret2
      exact ⟨_, by rw [← H2.out]; rfl, by rw [← H1.out]; exact hown, hb⟩
end Go.Proofs.Ytjjcedodjoieoaa
