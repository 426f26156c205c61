/-
  PROVED HERE: how many entries name a node, as plain data.
  CONDITIONS: none.
-/
import Derived.Test.YtjpdcppdoonmdaaGLit
namespace Go.Proofs.Ytjpdcppdoonmdaa
open Go.RowKit
def cntRow (es : List EntM) (id : Int) : Nat → Nat
  | 0 => 0
  | j + 1 => cntRow es id j + (if (en es j).id = id then 1 else 0)
def cntAll (ns : List NodeM) (id : Int) : Nat → Nat
  | 0 => 0
  | i + 1 => cntAll ns id i + cntRow (nd ns i).ents id (nd ns i).ents.length
theorem cntRow_le (es : List EntM) (id : Int) (j : Nat) : cntRow es id j ≤ j := by
  induction j with
  | zero => exact Nat.le_refl _
  | succ j ih =>
    rw [cntRow]
    split <;> omega
theorem cntRow_hit {es : List EntM} {id : Int} {j : Nat} (h : (en es j).id = id) : cntRow es id j + 1 = cntRow es id (j + 1) := by rw [cntRow, if_pos h]
theorem cntRow_miss {es : List EntM} {id : Int} {j : Nat} (h : ¬ (en es j).id = id) : cntRow es id j = cntRow es id (j + 1) := by rw [cntRow, if_neg h]; rfl
theorem cntAll_sum (ns : List NodeM) (id : Int) (i : Nat) : cntAll ns id i ≤ entSum ns i := by
  induction i with
  | zero => exact Nat.le_refl _
  | succ i ih =>
    rw [cntAll, entSum]
    have := cntRow_le (nd ns i).ents id (nd ns i).ents.length
    omega
theorem cntAll_le {ns : List NodeM} {i : Nat} (h : entSum ns ns.length ≤ 8192) (id : Int) (hi : i ≤ ns.length) : cntAll ns id i ≤ 8192 :=
  Nat.le_trans (Nat.le_trans (cntAll_sum ns id i) (entSum_mono hi)) h
noncomputable def linksG (ns : List NodeM) (id : Int) : Int × Int := if ¬ GraphOk ns then (0, 140) else if ¬ 0 ≤ atI ns id then (0, 141) else ((cntAll ns id ns.length : Int), 0)
theorem linksG_bad {ns : List NodeM} {id : Int} (h : ¬ GraphOk ns) : linksG ns id = (0, 140) := if_pos h
theorem linksG_none {ns : List NodeM} {id : Int} (h : GraphOk ns) (h1 : ¬ 0 ≤ atI ns id) : linksG ns id = (0, 141) := by unfold linksG; rw [if_neg (fun e => e h), if_pos h1]
theorem linksG_ok {ns : List NodeM} {id : Int} (h : GraphOk ns) (h1 : 0 ≤ atI ns id) : linksG ns id = ((cntAll ns id ns.length : Int), 0) := by unfold linksG; rw [if_neg (fun e => e h), if_neg (fun e => e h1)]
theorem little_links : linksG littleM 7 = (2, 0) := by
  rw [linksG_ok little_ok (by decide)]
  decide
end Go.Proofs.Ytjpdcppdoonmdaa
