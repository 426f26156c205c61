/-
  PROVED HERE: the laws' little graph: it is well-formed, and what Find answers in it.
  CONDITIONS: none.
-/
import Derived.Test.YtjpdcppdoonmdaaGFindR
namespace Go.Proofs.Ytjpdcppdoonmdaa
open Go.RowKit Go.Maps
def ltA : ByteArray := ⟨#[97]⟩
def ltB : ByteArray := ⟨#[98]⟩
def ltC : ByteArray := ⟨#[99]⟩
def little1 : NodeM := ⟨1, 2, 0, 0, 0, 0, 0, [], ⟨#[]⟩, [⟨⟨#[97]⟩, 5⟩, ⟨⟨#[98]⟩, 7⟩]⟩
def little2 : NodeM := ⟨5, 2, 0, 0, 0, 0, 0, [], ⟨#[]⟩, [⟨⟨#[99]⟩, 7⟩]⟩
def little3 : NodeM := ⟨7, 1, 0, 0, 0, 0, 0, [120], ⟨#[]⟩, []⟩
def littleM : List NodeM := [little1, little2, little3]
def littleL (b1 b2 b3 : Nat) : Lay :=
  ⟨fun i => if i = 2 then some ⟨b3, 0, none⟩ else none, fun i => if i = 0 then some ⟨b1, 0, none⟩ else if i = 1 then some ⟨b2, 0, none⟩ else none, fun i => if i = 2 then 1 else 0, fun i => if i = 0 then 2 else if i = 1 then 1 else 0⟩
theorem three {i : Nat} (h : i < littleM.length) : i = 0 ∨ i = 1 ∨ i = 2 := by
  have : i < 3 := h
  omega
theorem GraphAt.little {β : Bs} {B : Option Addr} {b1 b2 b3 : Nat} (hR : RowB β B (nodesV (littleL b1 b2 b3) littleM)) (h1 : EntsAt β (some ⟨b1, 0, none⟩) little1.ents) (h2 : EntsAt β (some ⟨b2, 0, none⟩) little2.ents) (h3 : BytesAt β (some ⟨b3, 0, none⟩) little3.data) :
    GraphAt β B littleM (littleL b1 b2 b3) := by
  refine ⟨hR, fun i hi => ?_, fun i hi => ?_⟩
  · rcases three hi with rfl | rfl | rfl
    · exact RowB.nil
    · exact RowB.nil
    · exact h3
  · rcases three hi with rfl | rfl | rfl
    · exact h1
    · exact h2
    · exact RowB.nil
theorem i64_small {z : Int} (h : 0 ≤ z ∧ z ≤ 1000) : I64 z := by unfold I64; omega
theorem little_bound : GraphB littleM 1048576 := by
  refine ⟨by decide, fun i hi => ?_⟩
  rcases three hi with rfl | rfl | rfl
  · exact ⟨⟨i64_small (by decide), i64_small (by decide), i64_small (by decide), i64_small (by decide), i64_small (by decide), i64_small (by decide), i64_small (by decide)⟩, by decide, by decide, by decide, fun j hj => by
      have hj : j < 2 := hj
      have : j = 0 ∨ j = 1 := by omega
      rcases this with rfl | rfl
      · exact ⟨i64_small (by decide), by decide⟩
      · exact ⟨i64_small (by decide), by decide⟩⟩
  · exact ⟨⟨i64_small (by decide), i64_small (by decide), i64_small (by decide), i64_small (by decide), i64_small (by decide), i64_small (by decide), i64_small (by decide)⟩, by decide, by decide, by decide, fun j hj => by
      have hj : j < 1 := hj
      have : j = 0 := by omega
      subst this
      exact ⟨i64_small (by decide), by decide⟩⟩
  · exact ⟨⟨i64_small (by decide), i64_small (by decide), i64_small (by decide), i64_small (by decide), i64_small (by decide), i64_small (by decide), i64_small (by decide)⟩, by decide, by decide, by decide, fun j hj => absurd hj (Nat.not_lt_zero j)⟩
theorem good_one {b : UInt8} (h0 : ¬ b = 0) (h1 : ¬ b = 47) (h2 : ¬ b = 46) : GoodName ⟨#[b]⟩ := by
  refine ⟨Nat.le_refl _, (by show 1 ≤ 255; decide), fun e => h2 ?_, fun e => ?_, fun j hj => ?_⟩
  · injection e with e
    have e : [b] = [46] := congrArg Array.toList e
    injection e
  · injection e with e
    have e : [b] = [46, 46] := congrArg Array.toList e
    injection e with _ e
    cases e
  · have : j = 0 := by have hj : j < 1 := hj; omega
    subst this
    show ¬ b.toNat = 0 ∧ ¬ b.toNat = 47
    exact ⟨fun e => h0 (UInt8.toNat_inj.1 e), fun e => h1 (UInt8.toNat_inj.1 e)⟩
theorem little_e0 : EntOk littleM 0 0 := ⟨by decide, good_one (by decide) (by decide) (by decide), not_strLe.2 (by decide)⟩
theorem little_e1 : EntOk littleM 0 1 := ⟨by decide, good_one (by decide) (by decide) (by decide), not_strLe.2 (by decide)⟩
theorem little_e2 : EntOk littleM 1 0 := ⟨by decide, good_one (by decide) (by decide) (by decide), not_strLe.2 (by decide)⟩
theorem little_edges : (allE littleM 3).map (idP littleM) = [(5, 1)] := by decide
theorem time_zero : TimeOk 0 0 := ⟨by decide, by decide, by decide, by decide, by decide⟩
theorem little_ok : GraphOk littleM := by
  refine ⟨by decide, fun i hi => ?_, fun i hi => ?_, fun i j hij hj => ?_, by decide, fun i hi j hj => ?_, by decide, fun z => ?_⟩
  · rcases three hi with rfl | rfl | rfl
    · exact ⟨by decide, by decide, by decide, by decide, time_zero, fun _ => rfl, fun h => absurd rfl h, .inl ⟨by decide, rfl⟩⟩
    · exact ⟨by decide, by decide, by decide, by decide, time_zero, fun _ => rfl, fun h => absurd rfl h, .inl ⟨by decide, rfl⟩⟩
    · exact ⟨by decide, by decide, by decide, by decide, time_zero, fun h => absurd rfl h, fun _ => rfl, .inl ⟨by decide, rfl⟩⟩
  · rcases three hi with rfl | rfl | rfl <;> exact ⟨by decide, by decide⟩
  · rcases three hj with rfl | rfl | rfl
    · omega
    · have : i = 0 := by omega
      subst this; decide
    · have : i = 0 ∨ i = 1 := by omega
      rcases this with rfl | rfl <;> decide
  · rcases three hi with rfl | rfl | rfl
    · have hj : j < 2 := hj
      have : j = 0 ∨ j = 1 := by omega
      rcases this with rfl | rfl
      · exact little_e0
      · exact little_e1
    · have hj : j < 1 := hj
      have : j = 0 := by omega
      subst this
      exact little_e2
    · exact absurd hj (Nat.not_lt_zero j)
  · have e : (allE littleM littleM.length).map (idP littleM) = [(5, 1)] := little_edges
    rw [e]
    by_cases h : z = 5
    · subst h
      exact ⟨1, 1, rfl, rfl⟩
    · refine ⟨0, ?_⟩
      show up _ z = none
      unfold up
      have : (z == 5) = false := by simp [h]
      rw [List.lookup_cons, this]
      rfl
theorem little_find : findG littleM 1 [ltA, ltC] = (7, 0) := by
  rw [findG_ok (beginC_ok little_ok (by decide) (by decide))]
  have h0 : tgt littleM 1 = 0 := by decide
  have h1 : findE (nd littleM 0).ents ltA = some 0 := by decide
  have h2 : tgt littleM (en (nd littleM 0).ents 0).id = 1 := by decide
  have h3 : findE (nd littleM 1).ents ltC = some 0 := by decide
  have h4 : tgt littleM (en (nd littleM 1).ents 0).id = 2 := by decide
  rw [h0, findM, if_neg (by decide), if_neg (by decide), h1]
  show findM littleM (tgt littleM (en (nd littleM 0).ents 0).id) [ltC] = _
  rw [h2, findM, if_neg (by decide), if_neg (by decide), h3]
  show findM littleM (tgt littleM (en (nd littleM 1).ents 0).id) [] = _
  rw [h4]
  rfl
end Go.Proofs.Ytjpdcppdoonmdaa
