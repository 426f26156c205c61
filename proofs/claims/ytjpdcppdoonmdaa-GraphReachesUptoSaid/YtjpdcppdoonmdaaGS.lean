/-
  PROVED HERE: plain laws of runes in a text, of the two bytes '/' and 0 in it; strings.IndexAny of a long text.
  CONDITIONS: none. No statement of the seat is proved here.
-/
import Derived.Test.YtjpdcppdoonmdaaGM
import Derived.Test.YtjpdcppdoonmdaaVs
import Derived.Lib.DecodeN
import Derived.Lib.SpaceUEq
import Derived.Lib.QuoteLoop
namespace Go.Proofs.Ytjpdcppdoonmdaa
open Go.RowKit Go.Lib
def cut2 : ByteArray := ⟨#[47, 0]⟩
def Clean (s : ByteArray) : Prop := ∀ j, j < s.size → ¬ byteAt s j = 0 ∧ ¬ byteAt s j = 47
noncomputable instance (s : ByteArray) : Decidable (Clean s) := Classical.propDecidable _
def ixR (c : Nat) : Int := if c = 47 then 0 else if c = 0 then 1 else -1
theorem ixR_ge {c : Nat} : 0 ≤ ixR c ↔ c = 47 ∨ c = 0 := by
  unfold ixR
  by_cases h : c = 47
  · simp [h]
  · by_cases h0 : c = 0
    · simp [h0]
    · simp [h, h0]
theorem get_byteAt {s : ByteArray} {j : Nat} (h : j < s.size) : (s.get! j).toNat = byteAt s j := by
  have h1 : j < s.data.size := h
  have e : s.get! j = s.data[j] := getElem!_pos s.data j h1
  unfold byteAt
  rw [Array.getD_eq_getD_getElem?, Array.getElem?_eq_getElem h1, e]
  rfl
theorem dec_step {s : ByteArray} {pos : Nat} (h : pos < s.size) : 1 ≤ (Utf8.decode s pos).2 ∧ pos + (Utf8.decode s pos).2 ≤ s.size ∧ (((Utf8.decode s pos).1 = 47 ∨ (Utf8.decode s pos).1 = 0) ↔ (byteAt s pos = 47 ∨ byteAt s pos = 0)) ∧ (∀ j, pos < j → j < pos + (Utf8.decode s pos).2 → 128 ≤ byteAt s j) ∧
    ((Utf8.decode s pos).1 < 55296 ∨ (57343 < (Utf8.decode s pos).1 ∧ (Utf8.decode s pos).1 ≤ 1114111)) := by
  have h0 : (s.get! pos).toNat < 256 := (s.get! pos).toNat_lt
  have hb := get_byteAt h
  have c1 := decodeN_conts (s.size - pos) (s.get! pos).toNat (s.get! (pos + 1)).toNat (s.get! (pos + 2)).toNat (s.get! (pos + 3)).toNat
  have c2 := decodeN_width_le (s.size - pos) (s.get! pos).toNat (s.get! (pos + 1)).toNat (s.get! (pos + 2)).toNat (s.get! (pos + 3)).toNat (by omega)
  have c3 := decodeN_valid (s.size - pos) (s.get! pos).toNat (s.get! (pos + 1)).toNat (s.get! (pos + 2)).toNat (s.get! (pos + 3)).toNat h0
  have c4 := decodeN_ge1 (s.size - pos) (s.get! pos).toNat (s.get! (pos + 1)).toNat (s.get! (pos + 2)).toNat (s.get! (pos + 3)).toNat
  have c5 : (decodeN (s.size - pos) (s.get! pos).toNat (s.get! (pos + 1)).toNat (s.get! (pos + 2)).toNat (s.get! (pos + 3)).toNat).1 < 128 → (decodeN (s.size - pos) (s.get! pos).toNat (s.get! (pos + 1)).toNat (s.get! (pos + 2)).toNat (s.get! (pos + 3)).toNat).1 = (s.get! pos).toNat := by
    intro h
    by_cases h1 : (s.get! pos).toNat < 128
    · rw [decodeN_ascii _ _ _ _ _ h1]
    · exfalso
      unfold decodeN at h
      rw [if_neg h1] at h
      repeat' split at h
      all_goals (simp only at h; omega)
  have c6 : (s.get! pos).toNat < 128 → (decodeN (s.size - pos) (s.get! pos).toNat (s.get! (pos + 1)).toNat (s.get! (pos + 2)).toNat (s.get! (pos + 3)).toNat).1 = (s.get! pos).toNat := fun h1 => by rw [decodeN_ascii _ _ _ _ _ h1]
  rw [← decode_at] at c1 c2 c3 c4 c5 c6
  obtain ⟨d1, d2, d3, d4⟩ := c1
  refine ⟨c4, by omega, by omega, fun j hj hj2 => ?_, c3⟩
  have hjs : j < s.size := by omega
  rw [← get_byteAt hjs]
  have : j = pos + 1 ∨ j = pos + 2 ∨ j = pos + 3 := by omega
  rcases this with rfl | rfl | rfl
  · have := (d1 (by omega)).1; omega
  · have := (d2 (by omega)).1; omega
  · have := (d3 (by omega)).1; omega
theorem enc_last {c : Nat} (h : 128 ≤ c) (hv : c < 55296 ∨ (57343 < c ∧ c ≤ 1114111)) : 2 ≤ (Utf8.encode (c : Int)).size ∧ (Utf8.encode (c : Int)).size ≤ 4 ∧ 128 ≤ byteAt (Utf8.encode (c : Int)) ((Utf8.encode (c : Int)).size - 1) := by
  have hval : Utf8.valid (c : Int) = true := by
    unfold Utf8.valid
    simp
    omega
  unfold Utf8.encode
  simp only [hval, if_true, Int.toNat_natCast]
  rw [if_neg (by omega)]
  split
  · refine ⟨Nat.le_refl _, Nat.le_of_ble_eq_true rfl, ?_⟩
    show 128 ≤ (UInt8.ofNat (0x80 + c % 64)).toNat
    rw [UInt8.toNat_ofNat']; omega
  · split
    · refine ⟨Nat.le_of_ble_eq_true rfl, Nat.le_of_ble_eq_true rfl, ?_⟩
      show 128 ≤ (UInt8.ofNat (0x80 + c % 64)).toNat
      rw [UInt8.toNat_ofNat']; omega
    · refine ⟨Nat.le_of_ble_eq_true rfl, Nat.le_of_ble_eq_true rfl, ?_⟩
      show 128 ≤ (UInt8.ofNat (0x80 + c % 64)).toNat
      rw [UInt8.toNat_ofNat']; omega
theorem indexAny_clean {s : ByteArray} : 0 ≤ Lib.indexAny s.data.toList cut2.data.toList ↔ ¬ Clean s := by
  have key : ∀ x : UInt8, cut2.data.toList.contains x = true ↔ (x.toNat = 0 ∨ x.toNat = 47) := by
    intro x
    have e1 : (x = 47) ↔ x.toNat = 47 := ⟨fun h => by rw [h]; rfl, fun h => UInt8.toNat_inj.1 h⟩
    have e2 : (x = 0) ↔ x.toNat = 0 := ⟨fun h => by rw [h]; rfl, fun h => UInt8.toNat_inj.1 h⟩
    show ([47, 0] : List UInt8).contains x = true ↔ _
    simp only [List.contains_cons, List.contains_nil, Bool.or_false, Bool.or_eq_true, beq_iff_eq]
    rw [e1, e2]
    omega
  constructor
  · intro h hc
    have : Lib.indexAny s.data.toList cut2.data.toList = -1 := Lib.indexAny_none (fun j b hj hb => by
      obtain ⟨h1, h2⟩ := byteAt_of hb
      have h3 := hc j h1
      cases hx : cut2.data.toList.contains b with
      | false => rfl
      | true => have := (key b).1 hx; omega)
    omega
  · intro h
    refine Decidable.byContradiction (fun hn => h ?_)
    have aux : ∀ i, i ≤ s.size → Lib.NoAny s.data.toList cut2.data.toList i := by
      intro i
      induction i with
      | zero => intro _; exact Lib.NoAny.zero _ _
      | succ i ih =>
        intro hi
        have hx := byteAt_some (show i < s.size by omega)
        refine (ih (by omega)).succ hx ?_
        cases hc : cut2.data.toList.contains (s.data.getD i 0) with
        | false => rfl
        | true =>
          have := Lib.indexAny_hit (ih (by omega)) hx hc
          omega
    intro j hj
    have h1 := aux s.size (Nat.le_refl _) j (s.data.getD j 0) hj (byteAt_some hj)
    have h2 := mt (key (s.data.getD j 0)).2 (by rw [h1]; exact Bool.false_ne_true)
    unfold byteAt
    omega
theorem sp_indexAny_long {β : Bs} (s : ByteArray) (h8 : 8 < s.size) (hs : s.size ≤ 1048576) : Spec Try.prog β 91 #[.string s, .string cut2] [] (fun v l => (∃ x : Int, v = .int .i64 x ∧ (0 ≤ x ↔ ¬ Clean s)) ∧ l = []) := by
  intro R w hS
  refine (Try.strings_IndexAny_long (zero_of_info (n := 256) (by kernel_rfl)).1 s cut2 w (by decide) h8 (by omega) (by decide) (by
    intro j b hb
    have : j < 2 := by have := len_of_some hb; simpa [cut2] using this
    have h : j = 0 ∨ j = 1 := by omega
    rcases h with rfl | rfl
    · have : b = 47 := by simpa [cut2] using hb.symm
      subst this; decide
    · have : b = 0 := by simpa [cut2] using hb.symm
      subst this; decide)).mono ?_
  rintro e w' ⟨rfl, rfl⟩
  exact ⟨_, [], rfl, ⟨⟨_, rfl, indexAny_clean⟩, rfl⟩, hS.quiet (((Keeps.refl _ _).alloc _).alloc _)⟩
theorem ixR_ascii : ∀ c : Fin 128, Lib.indexByte [47, 0] ((c.val : Int).toNat.toUInt8) = ixR c.val := by decide
theorem cut2_lo {pos : Nat} (h : pos < cut2.size) : (Utf8.decode cut2 pos).1 = 47 ∨ (Utf8.decode cut2 pos).1 = 0 := by
  refine (dec_step h).2.2.1.2 ?_
  have h : pos < 2 := h
  have : pos = 0 ∨ pos = 1 := by omega
  rcases this with rfl | rfl
  · exact .inl rfl
  · exact .inr rfl
theorem cut2_byte (i : Nat) : byteAt cut2 i < 128 := by
  unfold byteAt cut2
  match i with
  | 0 => decide
  | 1 => decide
  | n + 2 => exact (by decide : (0 : UInt8).toNat < 128)
theorem validR {c : Nat} (hv : c < 55296 ∨ (57343 < c ∧ c ≤ 1114111)) : Lib.validRune (c : Int) = true := by
  unfold Lib.validRune
  exact decide_eq_true (by omega)
theorem sp_validRune {β : Bs} {c : Nat} (hv : c < 55296 ∨ (57343 < c ∧ c ≤ 1114111)) : Spec Try.prog β 104 #[.int .i32 ((c : Nat) : Int)] [] (fun v l => v = .bool true ∧ l = []) :=
  Spec.quiet (fun w => (Try.utf8_ValidRune _ w).mono (fun _ _ ⟨h1, h2⟩ => ⟨h1.trans (by rw [validR hv]), h2⟩))
theorem sp_indexByte_nil {β : Bs} {i : Nat} (hi : 1 ≤ i) (b : Int) : Spec Try.prog β 77 #[.string (cut2.extract (i + 1) cut2.size), .int .u8 b] [] (fun v l => v = .int .i64 (-1) ∧ l = []) :=
  Spec.quiet (fun w => (Try.strings_IndexByte _ b w).mono (fun _ _ ⟨h1, h2⟩ => ⟨h1.trans (by
    have h0 : (cut2.extract (i + 1) cut2.size).size = 0 := by
      rw [ByteArray.size_extract]
      have : cut2.size = 2 := rfl
      omega
    rw [size0.1 h0]
    rfl), h2⟩))
theorem sp_indexRune_low {β : Bs} {c : Nat} (h : c < 128) : Spec Try.prog β 99 #[.string cut2, .int .i32 ((c : Nat) : Int)] [] (fun v l => v = .int .i64 (ixR c) ∧ l = []) :=
  Spec.quiet (fun w => (Try.strings_IndexRune_ascii cut2 _ w (by omega) (by omega)).mono (fun _ _ ⟨h1, h2⟩ => ⟨h1.trans (congrArg (fun x => Ending.returned (.int .i64 x)) (ixR_ascii ⟨c, h⟩)), h2⟩))
theorem ixR_high {c : Nat} (h : 128 ≤ c) : ixR c = -1 := by
  unfold ixR
  rw [if_neg (by omega), if_neg (by omega)]
theorem goodName_iff {s : ByteArray} : GoodName s ↔ 1 ≤ s.size ∧ s.size ≤ 255 ∧ ¬ s = ⟨#[46]⟩ ∧ ¬ s = ⟨#[46, 46]⟩ ∧ Clean s := Iff.rfl
end Go.Proofs.Ytjpdcppdoonmdaa
