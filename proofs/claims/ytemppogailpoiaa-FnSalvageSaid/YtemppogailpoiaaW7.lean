/- Walk: the reference's encoding of a chunk (a region with an open order that makes memory). -/
import Derived.Test.YtemppogailpoiaaW6
import Derived.Test.YtemppogailpoiaaReg
namespace Go.Proofs.Ytemppogailpoiaa
open Go.RowKit
set_option linter.unusedVariables false

theorem byte_cells (k : Nat) (hk : k < 256) : (#[Value.int .u8 (k : Int)] : Array Value).toList = bcells [UInt8.ofNat k] := by
  have h1 : (UInt8.ofNat k).toNat = k := by rw [UInt8.toNat_ofNat']; omega
  simp only [bcells, List.map_cons, List.map_nil, h1]
theorem own_below {w w1 : World} {u7 : Value} {e : TypeId} {l : List UInt8} (h : ∃ g : Nat, u7 = .slice (some ⟨g, 0, none⟩) 1 1 ∧ OwnB w 0 e (.slice (some ⟨g, 0, none⟩) 1 1) l) (hb : Below w.heap.size w w1) :
    ∃ g : Nat, u7 = .slice (some ⟨g, 0, none⟩) 1 1 ∧ OwnB w1 0 e (.slice (some ⟨g, 0, none⟩) 1 1) l := by
  obtain ⟨g, rfl, ho⟩ := h
  refine ⟨g, rfl, ho.1, ?_⟩
  rcases ho.2 with h | ⟨g', cap, cur, hv, h0, hh, hr⟩
  · exact .inl h
  · refine .inr ⟨g', cap, cur, hv, h0, ?_, hr⟩
    rw [hb.block g' (Array.getElem?_eq_some_iff.1 hh).1]
    exact hh
def encI (k : Nat) (s : ByteArray) (w0 : World) (D : Nat → Bool) (a : Act) (w : World) : Prop :=
  ∃ u4 u5 u6 u7 u8 u9 u10 u11 u12 u13 u14 u15 u16 u3 : Value, a = { tmps := #[(.agg #[.int .i64 (k : Int), .string s]), .pointer (some ⟨w0.heap.size, 0, none⟩), .string ByteArray.empty, u3, u4, u5, u6, u7, u8, u9, u10, u11, u12, u13, u14, u15, u16, undef, undef, undef, undef, undef], defers := [] } ∧ Below (w0.alloc (.cells #[.int .i64 (k : Int), .string s] 41)).heap.size (w0.alloc (.cells #[.int .i64 (k : Int), .string s] 41)) w ∧
    (D 0 = true → u4 = .pointer (some ⟨w0.heap.size, 0, none⟩)) ∧
    (D 1 = true → u5 = .int .i64 (k : Int)) ∧
    (D 2 = true → u6 = .int .u8 (k : Int)) ∧
    (D 3 = true → ∃ g : Nat, u7 = .slice (some ⟨g, 0, none⟩) 1 1 ∧ OwnB w 0 5 (.slice (some ⟨g, 0, none⟩) 1 1) [UInt8.ofNat k]) ∧
    (D 4 = true → u8 = .string ⟨#[UInt8.ofNat k]⟩) ∧
    (D 5 = true → u9 = .pointer (some ⟨w0.heap.size, 1, none⟩)) ∧
    (D 6 = true → u10 = .string s) ∧
    (D 7 = true → u11 = .int .i64 (s.size : Int)) ∧
    (D 8 = true → u12 = .string (wordB s.size)) ∧
    (D 9 = true → u13 = .string (⟨#[UInt8.ofNat k]⟩ ++ wordB s.size)) ∧
    (D 10 = true → u14 = .pointer (some ⟨w0.heap.size, 1, none⟩)) ∧
    (D 11 = true → u15 = .string s) ∧
    (D 12 = true → u16 = .string (headB k s)) ∧
    (D 13 = true → u3 = .string (headB k s))

set_option maxHeartbeats 2000000 in
theorem l13Encode_any (k : Nat) (s : ByteArray) (w0 : World) (hk : k < 256) (hs : s.size ≤ 8192) :
    Calls Try.prog 34 #[.agg #[.int .i64 (k : Int), .string s]] w0 fun e w' => e = .returned (.string (encB k s)) ∧ Below w0.heap.size w0 w' := by
  go_enter Try.func34, Try.ntmps34
  go_wp2_with fail
  refine wp_region_inv (by kernel_rfl) (by kernel_rfl) (encI k s w0) ?_ ?_ ?_
  · exact ⟨_, _, _, _, _, _, _, _, _, _, _, _, _, _, rfl, Below.drew (Below.refl _ _), nofun, nofun, nofun, nofun, nofun, nofun, nofun, nofun, nofun, nofun, nofun, nofun, nofun, nofun⟩
  · skip
    intro i o ho D hD hdep a w hI
    obtain ⟨u4, u5, u6, u7, u8, u9, u10, u11, u12, u13, u14, u15, u16, u3, rfl, hb, h0, h1, h2, h3, h4, h5, h6, h7, h8, h9, h10, h11, h12, h13⟩ := hI
    match i, ho, hD with
    | 0, ho, hD =>
      cases (show some _ = some o from ho)
      refine wpOp_at rfl rfl ?_
      go_wp2
      exact ⟨_, _, _, _, _, _, _, _, _, _, _, _, _, _, rfl, hb, fun _ => rfl, fun h => h1 (by simpa using h), fun h => h2 (by simpa using h), fun h => h3 (by simpa using h), fun h => h4 (by simpa using h), fun h => h5 (by simpa using h), fun h => h6 (by simpa using h), fun h => h7 (by simpa using h), fun h => h8 (by simpa using h), fun h => h9 (by simpa using h), fun h => h10 (by simpa using h), fun h => h11 (by simpa using h), fun h => h12 (by simpa using h), fun h => h13 (by simpa using h)⟩
    | 1, ho, hD =>
      cases (show some _ = some o from ho)
      obtain rfl := h0 (hdep ⟨0, .data⟩ (by simp))
      obtain ⟨hc, hf⟩ := bcell hb
      refine wpOp_at rfl rfl ?_
      go_wp2
      exact ⟨_, _, _, _, _, _, _, _, _, _, _, _, _, _, rfl, hb, fun _ => rfl, fun _ => rfl, fun h => h2 (by simpa using h), fun h => h3 (by simpa using h), fun h => h4 (by simpa using h), fun h => h5 (by simpa using h), fun h => h6 (by simpa using h), fun h => h7 (by simpa using h), fun h => h8 (by simpa using h), fun h => h9 (by simpa using h), fun h => h10 (by simpa using h), fun h => h11 (by simpa using h), fun h => h12 (by simpa using h), fun h => h13 (by simpa using h)⟩
    | 2, ho, hD =>
      cases (show some _ = some o from ho)
      obtain rfl := h1 (hdep ⟨1, .data⟩ (by simp))
      have hw := wrap_byte k hk
      refine wpOp_at rfl rfl ?_
      go_wp2
      exact ⟨_, _, _, _, _, _, _, _, _, _, _, _, _, _, rfl, hb, fun h => h0 (by simpa using h), fun _ => rfl, fun _ => rfl, fun h => h3 (by simpa using h), fun h => h4 (by simpa using h), fun h => h5 (by simpa using h), fun h => h6 (by simpa using h), fun h => h7 (by simpa using h), fun h => h8 (by simpa using h), fun h => h9 (by simpa using h), fun h => h10 (by simpa using h), fun h => h11 (by simpa using h), fun h => h12 (by simpa using h), fun h => h13 (by simpa using h)⟩
    | 3, ho, hD =>
      cases (show some _ = some o from ho)
      obtain rfl := h2 (hdep ⟨2, .data⟩ (by simp))
      refine wpOp_at rfl rfl ?_
      go_wp2
      exact ⟨_, _, _, _, _, _, _, _, _, _, _, _, _, _, rfl, below_alloc hb _, fun h => h0 (by simpa using h), fun h => h1 (by simpa using h), fun _ => rfl, fun _ => ⟨_, rfl, OwnB.lit w [UInt8.ofNat k] _ (byte_cells k hk) (Nat.zero_le _) (by simp [maxLen])⟩, fun h => h4 (by simpa using h), fun h => h5 (by simpa using h), fun h => h6 (by simpa using h), fun h => h7 (by simpa using h), fun h => h8 (by simpa using h), fun h => h9 (by simpa using h), fun h => h10 (by simpa using h), fun h => h11 (by simpa using h), fun h => h12 (by simpa using h), fun h => h13 (by simpa using h)⟩
    | 4, ho, hD =>
      cases (show some _ = some o from ho)
      have e3 := h3 (hdep ⟨3, .data⟩ (by simp))
      obtain ⟨g, rfl, hown⟩ := e3
      have hcv := run_b2s (P := Try.prog) (dst := 9) Try.underlying22 Try.underlying5 Try.underlying9 hown
      refine wpOp_at rfl rfl ?_
      go_wp2
      exact ⟨_, _, _, _, _, _, _, _, _, _, _, _, _, _, rfl, hb, fun h => h0 (by simpa using h), fun h => h1 (by simpa using h), fun h => h2 (by simpa using h), fun _ => ⟨g, rfl, hown⟩, fun _ => rfl, fun h => h5 (by simpa using h), fun h => h6 (by simpa using h), fun h => h7 (by simpa using h), fun h => h8 (by simpa using h), fun h => h9 (by simpa using h), fun h => h10 (by simpa using h), fun h => h11 (by simpa using h), fun h => h12 (by simpa using h), fun h => h13 (by simpa using h)⟩
    | 5, ho, hD =>
      cases (show some _ = some o from ho)
      refine wpOp_at rfl rfl ?_
      go_wp2
      exact ⟨_, _, _, _, _, _, _, _, _, _, _, _, _, _, rfl, hb, fun h => h0 (by simpa using h), fun h => h1 (by simpa using h), fun h => h2 (by simpa using h), fun h => h3 (by simpa using h), fun h => h4 (by simpa using h), fun _ => rfl, fun h => h6 (by simpa using h), fun h => h7 (by simpa using h), fun h => h8 (by simpa using h), fun h => h9 (by simpa using h), fun h => h10 (by simpa using h), fun h => h11 (by simpa using h), fun h => h12 (by simpa using h), fun h => h13 (by simpa using h)⟩
    | 6, ho, hD =>
      cases (show some _ = some o from ho)
      obtain rfl := h5 (hdep ⟨5, .data⟩ (by simp))
      obtain ⟨hc, hf⟩ := bcell hb
      refine wpOp_at rfl rfl ?_
      go_wp2
      exact ⟨_, _, _, _, _, _, _, _, _, _, _, _, _, _, rfl, hb, fun h => h0 (by simpa using h), fun h => h1 (by simpa using h), fun h => h2 (by simpa using h), fun h => h3 (by simpa using h), fun h => h4 (by simpa using h), fun _ => rfl, fun _ => rfl, fun h => h7 (by simpa using h), fun h => h8 (by simpa using h), fun h => h9 (by simpa using h), fun h => h10 (by simpa using h), fun h => h11 (by simpa using h), fun h => h12 (by simpa using h), fun h => h13 (by simpa using h)⟩
    | 7, ho, hD =>
      cases (show some _ = some o from ho)
      obtain rfl := h6 (hdep ⟨6, .data⟩ (by simp))
      refine wpOp_at rfl rfl ?_
      go_wp2
      exact ⟨_, _, _, _, _, _, _, _, _, _, _, _, _, _, rfl, hb, fun h => h0 (by simpa using h), fun h => h1 (by simpa using h), fun h => h2 (by simpa using h), fun h => h3 (by simpa using h), fun h => h4 (by simpa using h), fun h => h5 (by simpa using h), fun _ => rfl, fun _ => rfl, fun h => h8 (by simpa using h), fun h => h9 (by simpa using h), fun h => h10 (by simpa using h), fun h => h11 (by simpa using h), fun h => h12 (by simpa using h), fun h => h13 (by simpa using h)⟩
    | 8, ho, hD =>
      cases (show some _ = some o from ho)
      obtain rfl := h7 (hdep ⟨7, .data⟩ (by simp))
      refine wpOp_at rfl rfl ?_
      go_wp2_with (go_at_call 69; refine (l01Word_any _ _ (by omega)).mono ?_; rintro e w1 ⟨rfl, hb1⟩)
      exact ⟨_, _, _, _, _, _, _, _, _, _, _, _, _, _, rfl, below_step hb hb1, fun h => h0 (by simpa using h), fun h => h1 (by simpa using h), fun h => h2 (by simpa using h), fun h => own_below (h3 (by simpa using h)) hb1, fun h => h4 (by simpa using h), fun h => h5 (by simpa using h), fun h => h6 (by simpa using h), fun _ => rfl, fun _ => rfl, fun h => h9 (by simpa using h), fun h => h10 (by simpa using h), fun h => h11 (by simpa using h), fun h => h12 (by simpa using h), fun h => h13 (by simpa using h)⟩
    | 9, ho, hD =>
      cases (show some _ = some o from ho)
      obtain rfl := h4 (hdep ⟨4, .data⟩ (by simp))
      obtain rfl := h8 (hdep ⟨8, .data⟩ (by simp))
      have hws : ∀ n, (wordB n).size = 2 := fun _ => rfl
      refine wpOp_at rfl rfl ?_
      go_wp2
      exact ⟨_, _, _, _, _, _, _, _, _, _, _, _, _, _, rfl, hb, fun h => h0 (by simpa using h), fun h => h1 (by simpa using h), fun h => h2 (by simpa using h), fun h => h3 (by simpa using h), fun _ => rfl, fun h => h5 (by simpa using h), fun h => h6 (by simpa using h), fun h => h7 (by simpa using h), fun _ => rfl, fun _ => rfl, fun h => h10 (by simpa using h), fun h => h11 (by simpa using h), fun h => h12 (by simpa using h), fun h => h13 (by simpa using h)⟩
    | 10, ho, hD =>
      cases (show some _ = some o from ho)
      refine wpOp_at rfl rfl ?_
      go_wp2
      exact ⟨_, _, _, _, _, _, _, _, _, _, _, _, _, _, rfl, hb, fun h => h0 (by simpa using h), fun h => h1 (by simpa using h), fun h => h2 (by simpa using h), fun h => h3 (by simpa using h), fun h => h4 (by simpa using h), fun h => h5 (by simpa using h), fun h => h6 (by simpa using h), fun h => h7 (by simpa using h), fun h => h8 (by simpa using h), fun h => h9 (by simpa using h), fun _ => rfl, fun h => h11 (by simpa using h), fun h => h12 (by simpa using h), fun h => h13 (by simpa using h)⟩
    | 11, ho, hD =>
      cases (show some _ = some o from ho)
      obtain rfl := h10 (hdep ⟨10, .data⟩ (by simp))
      obtain ⟨hc, hf⟩ := bcell hb
      refine wpOp_at rfl rfl ?_
      go_wp2
      exact ⟨_, _, _, _, _, _, _, _, _, _, _, _, _, _, rfl, hb, fun h => h0 (by simpa using h), fun h => h1 (by simpa using h), fun h => h2 (by simpa using h), fun h => h3 (by simpa using h), fun h => h4 (by simpa using h), fun h => h5 (by simpa using h), fun h => h6 (by simpa using h), fun h => h7 (by simpa using h), fun h => h8 (by simpa using h), fun h => h9 (by simpa using h), fun _ => rfl, fun _ => rfl, fun h => h12 (by simpa using h), fun h => h13 (by simpa using h)⟩
    | 12, ho, hD =>
      cases (show some _ = some o from ho)
      obtain rfl := h9 (hdep ⟨9, .data⟩ (by simp))
      obtain rfl := h11 (hdep ⟨11, .data⟩ (by simp))
      have hws : ∀ n, (wordB n).size = 2 := fun _ => rfl
      have hz3 : ¬ (9223372036854775807 < 1 + 2 + s.size) := by omega
      have hz4 : ¬ (9223372036854775807 < 3 + s.size) := by omega
      refine wpOp_at rfl rfl ?_
      go_wp2
      exact ⟨_, _, _, _, _, _, _, _, _, _, _, _, _, _, rfl, hb, fun h => h0 (by simpa using h), fun h => h1 (by simpa using h), fun h => h2 (by simpa using h), fun h => h3 (by simpa using h), fun h => h4 (by simpa using h), fun h => h5 (by simpa using h), fun h => h6 (by simpa using h), fun h => h7 (by simpa using h), fun h => h8 (by simpa using h), fun _ => rfl, fun h => h10 (by simpa using h), fun _ => rfl, fun _ => rfl, fun h => h13 (by simpa using h)⟩
    | 13, ho, hD =>
      cases (show some _ = some o from ho)
      obtain rfl := h12 (hdep ⟨12, .data⟩ (by simp))
      refine wpOp_at rfl rfl ?_
      go_wp2
      exact ⟨_, _, _, _, _, _, _, _, _, _, _, _, _, _, rfl, hb, fun h => h0 (by simpa using h), fun h => h1 (by simpa using h), fun h => h2 (by simpa using h), fun h => h3 (by simpa using h), fun h => h4 (by simpa using h), fun h => h5 (by simpa using h), fun h => h6 (by simpa using h), fun h => h7 (by simpa using h), fun h => h8 (by simpa using h), fun h => h9 (by simpa using h), fun h => h10 (by simpa using h), fun h => h11 (by simpa using h), fun _ => rfl, fun _ => rfl⟩
    | _ + 14, ho, _ => simp at ho
  · rintro D hD a w ⟨u4, u5, u6, u7, u8, u9, u10, u11, u12, u13, u14, u15, u16, u3, rfl, hb, -, -, -, -, -, -, -, -, -, -, -, -, -, h13⟩
    obtain rfl := h13 (hD 13 (by simp))
    have hc := crcOf_lt (headB k s) 65535 (by omega)
    have hws : ∀ n, (wordB n).size = 2 := fun _ => rfl
    have hz2 : (headB k s).size = 3 + s.size := headB_size k s
    have hz3 : ¬ (9223372036854775807 < 3 + s.size + 2) := by omega
    go_wp2_with (first
      | (go_at_call 67; refine (l01Crc_any (headB k s) 65535 _ (by rw [headB_size]; omega) (by omega)).mono ?_; rintro e w2 ⟨rfl, rfl⟩)
      | (go_at_call 69; refine (l01Word_any _ _ hc).mono ?_; rintro e w2 ⟨rfl, hb2⟩))
    go_ret
    refine ⟨rfl, ?_⟩
    have h1 := below_step hb hb2
    exact (below_alloc (Below.refl _ w0) _).trans (h1.mono (by simp))
end Go.Proofs.Ytemppogailpoiaa
