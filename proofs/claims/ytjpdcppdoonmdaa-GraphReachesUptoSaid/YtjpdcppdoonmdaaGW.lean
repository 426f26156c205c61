/-
  PROVED HERE: what a law is told of its graph, as the contracts ask for it; the law's literals.
  CONDITIONS: none.
-/
import Derived.Test.YtjpdcppdoonmdaaGO
import Derived.Test.YtjpdcppdoonmdaaGRef
namespace Go.Proofs.Ytjpdcppdoonmdaa
open Go.RowKit
theorem B0.refl (W : World) : (B0 W).le (B0 W) := ⟨fun _ h => h, rfl, rfl, rfl, Nat.le_refl _, fun _ hk => ⟨hk, rfl⟩⟩
theorem Spec.val {P : Program} {β : Bs} {f : FuncId} {args : Array Value} {pre : List HP} {x y : Value} {l0 : List HP} (h : Spec P β f args pre (fun v l => v = x ∧ l = l0)) (e : x = y) : Spec P β f args pre (fun v l => v = y ∧ l = l0) := h.mono fun _ _ h => ⟨h.1.trans e, h.2⟩
section gb
variable {ns : List NodeM} {b : Nat}
theorem GraphB.mono {c : Nat} (h : GraphB ns b) (hb : b ≤ c) : GraphB ns c :=
  ⟨Nat.le_trans h.len hb, fun i hi => ⟨(h.node i hi).ids, Nat.le_trans (h.node i hi).data hb, Nat.le_trans (h.node i hi).target hb, Nat.le_trans (h.node i hi).ents hb, fun j hj => ⟨((h.node i hi).ent j hj).id, Nat.le_trans ((h.node i hi).ent j hj).name hb⟩⟩⟩
variable (h : GraphB ns 1048576)
include h
theorem GraphB.hl : ns.length ≤ 1048576 := by have := h.len; omega
theorem GraphB.hd : ∀ i, i < ns.length → (nd ns i).data.length ≤ 1048576 ∧ (nd ns i).ents.length ≤ 1048576 := fun i hi => by
  have h1 := (h.node i hi).data
  have h2 := (h.node i hi).ents
  omega
theorem GraphB.hwf : ∀ i, i < ns.length → ∀ j, j < (nd ns i).ents.length → -9223372036854775808 ≤ (ent ns i j).id ∧ (ent ns i j).id ≤ 9223372036854775807 := fun i hi j hj => ((h.node i hi).ent j hj).id
theorem GraphB.hnm : ∀ i, i < ns.length → ∀ j, j < (nd ns i).ents.length → (ent ns i j).name.size ≤ 1048576 := fun i hi j hj => by
  have h1 := ((h.node i hi).ent j hj).name
  unfold ent
  omega
theorem GraphB.ht : ∀ i, i < ns.length → (nd ns i).target.size ≤ 1048576 := fun i hi => by
  have h1 := (h.node i hi).target
  omega
end gb
def zeroNode : NodeM := ⟨0, 0, 0, 0, 0, 0, 0, [], ⟨#[]⟩, []⟩
def L0 : Lay := ⟨fun _ => none, fun _ => none, fun _ => 0, fun _ => 0⟩
theorem RowB.nil {β : Bs} {A : Option Addr} : RowB β A [] := fun j v hj => by simp at hj
theorem GraphAt.flat {β : Bs} {A : Option Addr} {ns : List NodeM} {L : Lay} (h : RowB β A (nodesV L ns)) (hd : ∀ i, i < ns.length → (nd ns i).data = [] ∧ (nd ns i).ents = []) : GraphAt β A ns L :=
  ⟨h, fun i hi => by rw [(hd i hi).1]; exact RowB.nil, fun i hi => by rw [(hd i hi).2]; exact RowB.nil⟩
theorem zero_bound : GraphB [zeroNode] 1048576 := by
  refine ⟨by decide, fun i hi => ?_⟩
  have : i = 0 := by simp at hi; exact hi
  subst this
  exact ⟨⟨⟨by decide, by decide⟩, ⟨by decide, by decide⟩, ⟨by decide, by decide⟩, ⟨by decide, by decide⟩, ⟨by decide, by decide⟩, ⟨by decide, by decide⟩, ⟨by decide, by decide⟩⟩, by decide, by decide, by decide, fun j hj => absurd hj (Nat.not_lt_zero j)⟩
theorem zero_flat : ∀ i, i < [zeroNode].length → (nd [zeroNode] i).data = [] ∧ (nd [zeroNode] i).ents = [] := fun i hi => by
  have : i = 0 := by simp at hi; exact hi
  subst this
  exact ⟨rfl, rfl⟩
theorem zero_bad : ¬ GraphOk [zeroNode] := fun h => by
  have := (h.ids 0 (by decide)).1
  exact absurd this (by decide)
end Go.Proofs.Ytjpdcppdoonmdaa
