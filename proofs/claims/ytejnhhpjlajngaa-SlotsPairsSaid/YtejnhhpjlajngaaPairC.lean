/-
  PROVED HERE: the calls of the law SlotsPairs as steps of its state.
  CONDITIONS: none.
-/
import Derived.Test.YtejnhhpjlajngaaStar
namespace Go.Proofs.Ytejnhhpjlajngaa
open Go.RowKit HeapM TabM Go.Maps

abbrev TP : TypeId := 60
abbrev TS : TypeId := 63
abbrev TR : TypeId := 32
def pv (v : Int) : Value := .agg #[.int .i64 v, .string ⟨#[98]⟩]
def tx (v : Int) : ByteArray := (⟨#[116, 101, 120, 116]⟩ : ByteArray).extract 0 v.toNat
def sv (v : Int) : Value := .string (tx v)
def mp (f : Int → Value) (us : Used Int) : Used Value := us.map fun p => (p.1, f p.2)
theorem mp_ins (f : Int → Value) (h v : Int) (us : Used Int) : ins h (f v) (mp f us) = mp f (ins h v us) := (ins_map f h v us).symm
theorem mp_del (f : Int → Value) (h : Int) (us : Used Int) : del h (mp f us) = mp f (del h us) := (del_map f h us).symm
theorem mp_keys (f : Int → Value) (us : Used Int) : keys (mp f us) = keys us := keys_map f us
theorem mp_least (f : Int → Value) (us : Used Int) : TabM.least (mp f us) = TabM.least us := by unfold TabM.least; rw [mp_keys]
theorem mp_len (f : Int → Value) (us : Used Int) : (mp f us).length = us.length := by simp [mp]
theorem mp_get (f : Int → Value) (us : Used Int) (h : Int) : TabM.get (mp f us) h = (TabM.get us h).map f := get_map f us h
end Go.Proofs.Ytejnhhpjlajngaa
