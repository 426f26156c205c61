/-
  PROVED HERE: Links: the program, the reference, the law
  CONDITIONS: as the theorems say. Printed by a program of this repo (wip/v).
-/
import Derived.Test.YtjpdcppdoonmdaaGN
namespace Go.Proofs.Ytjpdcppdoonmdaa
open Go.RowKit
attribute [local irreducible] TriL TriLQ Tri TriQ
set_option maxRecDepth 100000 in
set_option maxHeartbeats 4000000 in
theorem sp_links {β : Bs} (A : Option Addr) (c : Nat) (ns : List NodeM) (L : Lay) (hG : GraphAt β A ns L) (hB : GraphB ns 1048576) (id : Int) (hz : I64 id) :
    Spec Try.prog β 18 #[.agg #[.slice A ns.length c], .int .i64 id] [] (fun v l => v = .tuple #[.int .i64 (linksG ns id).1, .int .i64 (linksG ns id).2] ∧ l = []) := by
  refine Spec.enter Try.func18 rfl Try.ntmps18 (Nat.le_of_ble_eq_true rfl) (fun R => ?_)
  refine Tri.seq ?_
  refine Tri.region ?_
  refine TriL.segN (k' := 3) (fr' := fun b1 => [(1, .int .i64 (id)), (2, .pointer (some ⟨b1, 0, none⟩))]) (hps' := fun b1 => [.abs R, .blk b1 [.slice A (ns.length) (c)] 24]) (obl := fun b1 => []) [o_, o_, o_] [1, 2] [0, 1] (fun _ _ => by kernel_rfl) (fun b1 => trivial) (fun b1 => ?_)
  show TriL _ _ _ _ _ [(1, .int .i64 (id)), (2, .pointer (some ⟨b1, 0, none⟩))] [.abs R, .blk b1 [.slice A (ns.length) (c)] 24] _
  refine TriL.nil (by kernel_rfl) ?_
  refine TriQ.next ?_
  refine Tri.seq ?_
  refine Tri.region ?_
  refine TriL.seg (k' := 1) (fr' := [(1, .int .i64 (id)), (2, .pointer (some ⟨b1, 0, none⟩)), (14, .agg #[.slice A (ns.length) (c)])]) (hps' := [.abs R, .blk b1 [.slice A (ns.length) (c)] 24]) (obl := [b1 = b1]) [⟨[.at 1], none, none, none, none⟩] [1, 2, 14] [0, 1] (fun _ _ => by kernel_rfl) ⟨rfl, trivial⟩ ?_
  refine TriL.call (f := 37) (args := #[.agg #[.slice A (ns.length) (c)]]) (d := (some 15)) (pre := []) (R := [.abs R, .blk b1 [.slice A (ns.length) (c)] 24]) (pk := [0, 1]) (fun _ => by kernel_rfl) (sp_read A c ns L hG hB.hl hB.hd hB.hwf hB.hnm) rfl (by kernel_rfl) ?_
  rintro _ _ (⟨mb, rfl, hok, rfl⟩ | ⟨m, rfl, hok, rfl⟩)
  · refine TriL.seg (k' := 7) (fr' := [(1, .int .i64 (id)), (2, .pointer (some ⟨b1, 0, none⟩)), (6, .map (some mb)), (7, .bool true)]) (hps' := [.abs (MapA Try.prog 3 mb (mf (bf A ns ns.length)) ns.length), .abs R, .blk b1 [.slice A (ns.length) (c)] 24]) (obl := []) [o_, o_, o_, o_, o_] [1, 2, 6, 7] [0, 1, 2] (fun _ _ => by kernel_rfl) trivial ?_
    refine TriL.nil (by kernel_rfl) ?_
    refine TriQ.next ?_
    refine Tri.seq ?_
    refine Tri.seq ?_
    refine Tri.region ?_
    refine TriL.seg (k' := 2) (fr' := [(1, .int .i64 (id)), (2, .pointer (some ⟨b1, 0, none⟩)), (6, .map (some mb)), (19, .bool false)]) (hps' := [.abs (MapA Try.prog 3 mb (mf (bf A ns ns.length)) ns.length), .abs R, .blk b1 [.slice A (ns.length) (c)] 24]) (obl := []) [o_, o_] [1, 2, 6, 19] [0, 1, 2] (fun _ _ => by kernel_rfl) trivial ?_
    refine TriL.nil (by kernel_rfl) ?_
    refine TriQ.next ?_
    refine Tri.condF (fun _ => by kernel_rfl) ?_
    refine Tri.skip ?_
    refine TriQ.next ?_
    refine Tri.seq ?_
    refine Tri.seq ?_
    refine Tri.region ?_
    refine TriL.seg (k' := 2) (fr' := [(1, .int .i64 (id)), (2, .pointer (some ⟨b1, 0, none⟩)), (20, .map (some mb)), (21, .int .i64 (id))]) (hps' := [.abs (MapA Try.prog 3 mb (mf (bf A ns ns.length)) ns.length), .abs R, .blk b1 [.slice A (ns.length) (c)] 24]) (obl := []) [o_, o_] [1, 2, 20, 21] [0, 1, 2] (fun _ _ => by kernel_rfl) trivial ?_
    by_cases hat : 0 ≤ atI ns id
    · have htl := atI_lt hat
      refine TriL.mapLook 0 (d := (some 22)) (t := 66) (K := 3) (E := 75) (b := mb) (n := ns.length) (f := (mf (bf A ns ns.length))) (x := (.tmp 20)) (ix := (.tmp 21)) (key := .int .i64 (id)) (z := .pointer none) (kl := (.int .i64 id)) (r := (some (.pointer (some ⟨(blkOf A), offOf A + (tgt ns id) * 10, none⟩)))) (fun _ => by kernel_rfl) (by kernel_rfl) (fun _ => by kernel_rfl) (fun _ => by kernel_rfl) lawI Try.underlying66 (fun _ => by kernel_rfl) (keyI hz.1 hz.2) (bf_at hat htl.1) ?_
      refine TriL.seg (k' := 4) (fr' := [(1, .int .i64 (id)), (2, .pointer (some ⟨b1, 0, none⟩)), (23, .bool false)]) (hps' := [.abs (MapA Try.prog 3 mb (mf (bf A ns ns.length)) ns.length), .abs R, .blk b1 [.slice A (ns.length) (c)] 24]) (obl := []) [o_] [1, 2, 23] [0, 1, 2] (fun _ _ => by kernel_rfl) trivial ?_
      refine TriL.nil (by kernel_rfl) ?_
      refine TriQ.next ?_
      refine Tri.condF (fun _ => by kernel_rfl) ?_
      refine Tri.skip ?_
      refine TriQ.next ?_
      refine Tri.seq ?_
      refine Tri.region ?_
      refine TriL.seg (k' := 1) (fr' := [(1, .int .i64 (id)), (2, .pointer (some ⟨b1, 0, none⟩)), (8, .int .i64 0)]) (hps' := [.abs (MapA Try.prog 3 mb (mf (bf A ns ns.length)) ns.length), .abs R, .blk b1 [.slice A (ns.length) (c)] 24]) (obl := []) [o_] [1, 2, 8] [0, 1, 2] (fun _ _ => by kernel_rfl) trivial ?_
      refine TriL.nil (by kernel_rfl) ?_
      refine TriQ.next ?_
      refine Tri.seq ?_
      refine Tri.seq ?_
      refine Tri.region ?_
      refine TriL.seg (k' := 4) (fr' := [(1, .int .i64 (id)), (8, .int .i64 0), (25, .slice A (ns.length) (c)), (26, .int .i64 (((ns.length : Nat) : Int))), (27, .int .i64 0)]) (hps' := [.abs (MapA Try.prog 3 mb (mf (bf A ns ns.length)) ns.length), .abs R, .blk b1 [.slice A (ns.length) (c)] 24]) (obl := [b1 = b1]) [o_, ⟨[.at 2], none, none, none, none⟩, o_, o_] [1, 8, 25, 26, 27] [0, 1, 2] (fun _ _ => by kernel_rfl) ⟨rfl, trivial⟩ ?_
      refine TriL.nil (by kernel_rfl) ?_
      refine TriQ.next ?_
      refine Tri.block ?_
      refine Tri.loop (ι := Nat) (fun (i : Nat) => (i ≤ ns.length)) (fun (i : Nat) => ns.length - i) (fun (i : Nat) => [(1, .int .i64 (id)), (8, .int .i64 (((cntAll ns id i : Nat) : Int))), (25, .slice A (ns.length) (c)), (26, .int .i64 (((ns.length : Nat) : Int))), (27, .int .i64 (((i : Nat) : Int)))]) (fun (i : Nat) => [.abs R]) 0 (idx := [1, 8, 25, 26, 27]) (pk := [1]) (show (0 ≤ ns.length) from Nat.zero_le _) (fun _ => by kernel_rfl) rfl (by kernel_rfl) ?_
      rintro i hi
      show Tri _ _ _ _ [(1, .int .i64 (id)), (8, .int .i64 (((cntAll ns id i : Nat) : Int))), (25, .slice A (ns.length) (c)), (26, .int .i64 (((ns.length : Nat) : Int))), (27, .int .i64 (((i : Nat) : Int)))] [.abs R] _
      have hcb := cntAll_le hok.sum id hi
      have hll := hB.hl
      refine Tri.seq ?_
      refine Tri.region ?_
      refine TriL.seg (k' := 1) (fr' := [(1, .int .i64 (id)), (8, .int .i64 (((cntAll ns id i : Nat) : Int))), (25, .slice A (ns.length) (c)), (26, .int .i64 (((ns.length : Nat) : Int))), (27, .int .i64 (((i : Nat) : Int))), (28, .bool (decide ((((i : Nat) : Int) : Int) < (((ns.length : Nat) : Int) : Int))))]) (hps' := [.abs R]) (obl := []) [o_] [1, 8, 25, 26, 27, 28] [0] (fun _ _ => by kernel_rfl) trivial ?_
      refine TriL.nil (by kernel_rfl) ?_
      refine TriQ.next ?_
      refine Tri.seq ?_
      refine Tri.condP (p := (((i : Nat) : Int) : Int) < (((ns.length : Nat) : Int) : Int)) (fun _ => by kernel_rfl) (fun h28 => ?_) (fun h28 => ?_)
      · refine Tri.skip ?_
        refine TriQ.next ?_
        refine Tri.seq ?_
        refine Tri.block ?_
        refine Tri.seq ?_
        refine Tri.region ?_
        refine TriL.segN (k' := 4) (fr' := fun b2 => [(1, .int .i64 (id)), (8, .int .i64 (((cntAll ns id i : Nat) : Int))), (10, .pointer (some ⟨b2, 0, none⟩)), (25, .slice A (ns.length) (c)), (26, .int .i64 (((ns.length : Nat) : Int))), (27, .int .i64 (((i : Nat) : Int)))]) (hps' := fun b2 => [.abs R, .blk b2 [.int .i64 ((nd ns i).id), .int .i64 ((nd ns i).kind), .int .i64 ((nd ns i).mode), .int .i64 ((nd ns i).uid), .int .i64 ((nd ns i).gid), .int .i64 ((nd ns i).sec), .int .i64 ((nd ns i).nano), .slice (L.dA i) ((nd ns i).data.length) ((L.dC i)), .string (nd ns i).target, .slice (L.eA i) ((nd ns i).ents.length) ((L.eC i))] 32]) (obl := fun b2 => [b2 = b2, b2 = b2, b2 = b2, b2 = b2, b2 = b2, b2 = b2, b2 = b2, b2 = b2, b2 = b2, b2 = b2, (Rd β ⟨(blkOf A), offOf A + i * 10 + 9, none⟩ (.slice (L.eA i) ((nd ns i).ents.length) ((L.eC i)))), (Rd β ⟨(blkOf A), offOf A + i * 10 + 8, none⟩ (.string (nd ns i).target)), (Rd β ⟨(blkOf A), offOf A + i * 10 + 7, none⟩ (.slice (L.dA i) ((nd ns i).data.length) ((L.dC i)))), (Rd β ⟨(blkOf A), offOf A + i * 10 + 6, none⟩ (.int .i64 ((nd ns i).nano))), (Rd β ⟨(blkOf A), offOf A + i * 10 + 5, none⟩ (.int .i64 ((nd ns i).sec))), (Rd β ⟨(blkOf A), offOf A + i * 10 + 4, none⟩ (.int .i64 ((nd ns i).gid))), (Rd β ⟨(blkOf A), offOf A + i * 10 + 3, none⟩ (.int .i64 ((nd ns i).uid))), (Rd β ⟨(blkOf A), offOf A + i * 10 + 2, none⟩ (.int .i64 ((nd ns i).mode))), (Rd β ⟨(blkOf A), offOf A + i * 10 + 1, none⟩ (.int .i64 ((nd ns i).kind))), (Rd β ⟨(blkOf A), offOf A + i * 10, none⟩ (.int .i64 ((nd ns i).id))), ((i : Nat) : Int) = ((i : Nat) : Int), i < ns.length, (⟨(blkOf A), offOf A, none⟩ : Addr).spot = none, (A : Option Addr) = some ⟨(blkOf A), offOf A, none⟩]) [⟨[], some i, none, some ⟨(blkOf A), offOf A, none⟩, none⟩, ⟨[.old (.int .i64 ((nd ns i).id)), .old (.int .i64 ((nd ns i).kind)), .old (.int .i64 ((nd ns i).mode)), .old (.int .i64 ((nd ns i).uid)), .old (.int .i64 ((nd ns i).gid)), .old (.int .i64 ((nd ns i).sec)), .old (.int .i64 ((nd ns i).nano)), .old (.slice (L.dA i) ((nd ns i).data.length) ((L.dC i))), .old (.string (nd ns i).target), .old (.slice (L.eA i) ((nd ns i).ents.length) ((L.eC i)))], none, none, none, none⟩, o_, ⟨[.at 1, .at 1, .at 1, .at 1, .at 1, .at 1, .at 1, .at 1, .at 1, .at 1], none, none, none, none⟩] [1, 8, 10, 25, 26, 27] [0, 1] (fun _ _ => by kernel_rfl) (fun b2 => ⟨rfl, rfl, rfl, rfl, rfl, rfl, rfl, rfl, rfl, rfl, GraphAt.rd hG (i := i) (by omega) (j := 9) rfl, GraphAt.rd hG (i := i) (by omega) (j := 8) rfl, GraphAt.rd hG (i := i) (by omega) (j := 7) rfl, GraphAt.rd hG (i := i) (by omega) (j := 6) rfl, GraphAt.rd hG (i := i) (by omega) (j := 5) rfl, GraphAt.rd hG (i := i) (by omega) (j := 4) rfl, GraphAt.rd hG (i := i) (by omega) (j := 3) rfl, GraphAt.rd hG (i := i) (by omega) (j := 2) rfl, GraphAt.rd hG (i := i) (by omega) (j := 1) rfl, GraphAt.rd hG (i := i) (by omega) (j := 0) rfl, rfl, by omega, rfl, GraphAt.hd hG (i := i) (by omega), trivial⟩) (fun b2 => ?_)
        show TriL _ _ _ _ _ [(1, .int .i64 (id)), (8, .int .i64 (((cntAll ns id i : Nat) : Int))), (10, .pointer (some ⟨b2, 0, none⟩)), (25, .slice A (ns.length) (c)), (26, .int .i64 (((ns.length : Nat) : Int))), (27, .int .i64 (((i : Nat) : Int)))] [.abs R, .blk b2 [.int .i64 ((nd ns i).id), .int .i64 ((nd ns i).kind), .int .i64 ((nd ns i).mode), .int .i64 ((nd ns i).uid), .int .i64 ((nd ns i).gid), .int .i64 ((nd ns i).sec), .int .i64 ((nd ns i).nano), .slice (L.dA i) ((nd ns i).data.length) ((L.dC i)), .string (nd ns i).target, .slice (L.eA i) ((nd ns i).ents.length) ((L.eC i))] 32] _
        refine TriL.nil (by kernel_rfl) ?_
        refine TriQ.next ?_
        refine Tri.seq ?_
        refine Tri.region ?_
        refine TriL.seg (k' := 4) (fr' := [(1, .int .i64 (id)), (8, .int .i64 (((cntAll ns id i : Nat) : Int))), (25, .slice A (ns.length) (c)), (26, .int .i64 (((ns.length : Nat) : Int))), (27, .int .i64 (((i : Nat) : Int))), (32, .slice (L.eA i) ((nd ns i).ents.length) ((L.eC i))), (33, .int .i64 ((((nd ns i).ents.length : Nat) : Int))), (34, .int .i64 0)]) (hps' := [.abs R, .blk b2 [.int .i64 ((nd ns i).id), .int .i64 ((nd ns i).kind), .int .i64 ((nd ns i).mode), .int .i64 ((nd ns i).uid), .int .i64 ((nd ns i).gid), .int .i64 ((nd ns i).sec), .int .i64 ((nd ns i).nano), .slice (L.dA i) ((nd ns i).data.length) ((L.dC i)), .string (nd ns i).target, .slice (L.eA i) ((nd ns i).ents.length) ((L.eC i))] 32]) (obl := [b2 = b2]) [o_, ⟨[.at 1], none, none, none, none⟩, o_, o_] [1, 8, 25, 26, 27, 32, 33, 34] [0, 1] (fun _ _ => by kernel_rfl) ⟨rfl, trivial⟩ ?_
        refine TriL.nil (by kernel_rfl) ?_
        refine TriQ.next ?_
        refine Tri.block ?_
        refine Tri.loop (ι := Nat) (fun (j : Nat) => (j ≤ (nd ns i).ents.length)) (fun (j : Nat) => (nd ns i).ents.length - j) (fun (j : Nat) => [(1, .int .i64 (id)), (8, .int .i64 (((cntAll ns id i + cntRow (nd ns i).ents id j : Nat) : Int))), (25, .slice A (ns.length) (c)), (26, .int .i64 (((ns.length : Nat) : Int))), (27, .int .i64 (((i : Nat) : Int))), (32, .slice (L.eA i) ((nd ns i).ents.length) ((L.eC i))), (33, .int .i64 ((((nd ns i).ents.length : Nat) : Int))), (34, .int .i64 (((j : Nat) : Int)))]) (fun (j : Nat) => [.abs R]) 0 (idx := [1, 8, 25, 26, 27, 32, 33, 34]) (pk := [0]) (show (0 ≤ (nd ns i).ents.length) from Nat.zero_le _) (fun _ => by kernel_rfl) rfl (by kernel_rfl) ?_
        rintro j hj
        show Tri _ _ _ _ [(1, .int .i64 (id)), (8, .int .i64 (((cntAll ns id i + cntRow (nd ns i).ents id j : Nat) : Int))), (25, .slice A (ns.length) (c)), (26, .int .i64 (((ns.length : Nat) : Int))), (27, .int .i64 (((i : Nat) : Int))), (32, .slice (L.eA i) ((nd ns i).ents.length) ((L.eC i))), (33, .int .i64 ((((nd ns i).ents.length : Nat) : Int))), (34, .int .i64 (((j : Nat) : Int)))] [.abs R] _
        have hrb := cntRow_le (nd ns i).ents id j
        have hd3 := hB.hd i (by omega)
        refine Tri.seq ?_
        refine Tri.region ?_
        refine TriL.seg (k' := 1) (fr' := [(1, .int .i64 (id)), (8, .int .i64 (((cntAll ns id i + cntRow (nd ns i).ents id j : Nat) : Int))), (25, .slice A (ns.length) (c)), (26, .int .i64 (((ns.length : Nat) : Int))), (27, .int .i64 (((i : Nat) : Int))), (32, .slice (L.eA i) ((nd ns i).ents.length) ((L.eC i))), (33, .int .i64 ((((nd ns i).ents.length : Nat) : Int))), (34, .int .i64 (((j : Nat) : Int))), (35, .bool (decide ((((j : Nat) : Int) : Int) < ((((nd ns i).ents.length : Nat) : Int) : Int))))]) (hps' := [.abs R]) (obl := []) [o_] [1, 8, 25, 26, 27, 32, 33, 34, 35] [0] (fun _ _ => by kernel_rfl) trivial ?_
        refine TriL.nil (by kernel_rfl) ?_
        refine TriQ.next ?_
        refine Tri.seq ?_
        refine Tri.condP (p := (((j : Nat) : Int) : Int) < ((((nd ns i).ents.length : Nat) : Int) : Int)) (fun _ => by kernel_rfl) (fun h35 => ?_) (fun h35 => ?_)
        · refine Tri.skip ?_
          refine TriQ.next ?_
          refine Tri.seq ?_
          refine Tri.block ?_
          refine Tri.seq ?_
          refine Tri.region ?_
          refine TriL.segN (k' := 4) (fr' := fun b3 => [(1, .int .i64 (id)), (8, .int .i64 (((cntAll ns id i + cntRow (nd ns i).ents id j : Nat) : Int))), (12, .pointer (some ⟨b3, 0, none⟩)), (25, .slice A (ns.length) (c)), (26, .int .i64 (((ns.length : Nat) : Int))), (27, .int .i64 (((i : Nat) : Int))), (32, .slice (L.eA i) ((nd ns i).ents.length) ((L.eC i))), (33, .int .i64 ((((nd ns i).ents.length : Nat) : Int))), (34, .int .i64 (((j : Nat) : Int)))]) (hps' := fun b3 => [.abs R, .blk b3 [.string (en (nd ns i).ents j).name, .int .i64 ((en (nd ns i).ents j).id)] 72]) (obl := fun b3 => [b3 = b3, b3 = b3, (Rd β ⟨(blkOf (L.eA i)), offOf (L.eA i) + j * 2 + 1, none⟩ (.int .i64 ((en (nd ns i).ents j).id))), (Rd β ⟨(blkOf (L.eA i)), offOf (L.eA i) + j * 2, none⟩ (.string (en (nd ns i).ents j).name)), ((j : Nat) : Int) = ((j : Nat) : Int), j < (nd ns i).ents.length, (⟨(blkOf (L.eA i)), offOf (L.eA i), none⟩ : Addr).spot = none, ((L.eA i) : Option Addr) = some ⟨(blkOf (L.eA i)), offOf (L.eA i), none⟩]) [⟨[], some j, none, some ⟨(blkOf (L.eA i)), offOf (L.eA i), none⟩, none⟩, ⟨[.old (.string (en (nd ns i).ents j).name), .old (.int .i64 ((en (nd ns i).ents j).id))], none, none, none, none⟩, o_, ⟨[.at 1, .at 1], none, none, none, none⟩] [1, 8, 12, 25, 26, 27, 32, 33, 34] [0, 1] (fun _ _ => by kernel_rfl) (fun b3 => ⟨rfl, rfl, EntsAt.rd (hG.ents i (by omega)) (i := j) (by omega) (j := 1) rfl, EntsAt.rd (hG.ents i (by omega)) (i := j) (by omega) (j := 0) rfl, rfl, by omega, rfl, EntsAt.hd (hG.ents i (by omega)) (i := j) (by omega), trivial⟩) (fun b3 => ?_)
          show TriL _ _ _ _ _ [(1, .int .i64 (id)), (8, .int .i64 (((cntAll ns id i + cntRow (nd ns i).ents id j : Nat) : Int))), (12, .pointer (some ⟨b3, 0, none⟩)), (25, .slice A (ns.length) (c)), (26, .int .i64 (((ns.length : Nat) : Int))), (27, .int .i64 (((i : Nat) : Int))), (32, .slice (L.eA i) ((nd ns i).ents.length) ((L.eC i))), (33, .int .i64 ((((nd ns i).ents.length : Nat) : Int))), (34, .int .i64 (((j : Nat) : Int)))] [.abs R, .blk b3 [.string (en (nd ns i).ents j).name, .int .i64 ((en (nd ns i).ents j).id)] 72] _
          refine TriL.nil (by kernel_rfl) ?_
          refine TriQ.next ?_
          refine Tri.seq ?_
          refine Tri.region ?_
          refine TriL.seg (k' := 4) (fr' := [(1, .int .i64 (id)), (8, .int .i64 (((cntAll ns id i + cntRow (nd ns i).ents id j : Nat) : Int))), (25, .slice A (ns.length) (c)), (26, .int .i64 (((ns.length : Nat) : Int))), (27, .int .i64 (((i : Nat) : Int))), (32, .slice (L.eA i) ((nd ns i).ents.length) ((L.eC i))), (33, .int .i64 ((((nd ns i).ents.length : Nat) : Int))), (34, .int .i64 (((j : Nat) : Int))), (41, .bool (decide (((en (nd ns i).ents j).id : Int) = (id : Int))))]) (hps' := [.abs R, .blk b3 [.string (en (nd ns i).ents j).name, .int .i64 ((en (nd ns i).ents j).id)] 72]) (obl := [b3 = b3]) [o_, ⟨[.at 1], none, none, none, none⟩, o_, o_] [1, 8, 25, 26, 27, 32, 33, 34, 41] [0, 1] (fun _ _ => by kernel_rfl) ⟨rfl, trivial⟩ ?_
          refine TriL.nil (by kernel_rfl) ?_
          refine TriQ.next ?_
          refine Tri.condP (p := ((en (nd ns i).ents j).id : Int) = (id : Int)) (fun _ => by kernel_rfl) (fun h41 => ?_) (fun h41 => ?_)
          · refine Tri.region ?_
            refine TriL.seg (k' := 3) (fr' := [(1, .int .i64 (id)), (8, .int .i64 ((((cntAll ns id i + cntRow (nd ns i).ents id j) + 1 : Nat) : Int))), (25, .slice A (ns.length) (c)), (26, .int .i64 (((ns.length : Nat) : Int))), (27, .int .i64 (((i : Nat) : Int))), (32, .slice (L.eA i) ((nd ns i).ents.length) ((L.eC i))), (33, .int .i64 ((((nd ns i).ents.length : Nat) : Int))), (34, .int .i64 (((j : Nat) : Int)))]) (hps' := [.abs R, .blk b3 [.string (en (nd ns i).ents j).name, .int .i64 ((en (nd ns i).ents j).id)] 72]) (obl := [(Value.int .i64 (IntKind.wrap .i64 (((cntAll ns id i + cntRow (nd ns i).ents id j : Nat) : Int) + 1))) = (.int .i64 ((((cntAll ns id i + cntRow (nd ns i).ents id j) + 1 : Nat) : Int)))]) [o_, ⟨[], none, none, none, some (.int .i64 ((((cntAll ns id i + cntRow (nd ns i).ents id j) + 1 : Nat) : Int)))⟩, o_] [1, 8, 25, 26, 27, 32, 33, 34] [0, 1] (fun _ _ => by kernel_rfl) ⟨wrapEq (by omega) (by omega) (by omega), trivial⟩ ?_
            refine TriL.nil (by kernel_rfl) ?_
            refine TriQ.blockNormal ?_
            refine TriQ.next ?_
            refine Tri.region ?_
            refine TriL.slot 8 (.int .i64 ((((cntAll ns id i + cntRow (nd ns i).ents id j) + 1 : Nat) : Int))) (.int .i64 (((cntAll ns id i + cntRow (nd ns i).ents id (j + 1) : Nat) : Int))) (fun _ => by kernel_rfl) (by rw [← cntRow_hit h41, Nat.add_assoc]) ?_
            refine TriL.seg (k' := 2) (fr' := [(1, .int .i64 (id)), (8, .int .i64 (((cntAll ns id i + cntRow (nd ns i).ents id (j + 1) : Nat) : Int))), (25, .slice A (ns.length) (c)), (26, .int .i64 (((ns.length : Nat) : Int))), (27, .int .i64 (((i : Nat) : Int))), (32, .slice (L.eA i) ((nd ns i).ents.length) ((L.eC i))), (33, .int .i64 ((((nd ns i).ents.length : Nat) : Int))), (34, .int .i64 (((j + 1 : Nat) : Int)))]) (hps' := [.abs R, .blk b3 [.string (en (nd ns i).ents j).name, .int .i64 ((en (nd ns i).ents j).id)] 72]) (obl := [(Value.int .i64 (IntKind.wrap .i64 (((j : Nat) : Int) + 1))) = (.int .i64 (((j + 1 : Nat) : Int)))]) [⟨[], none, none, none, some (.int .i64 (((j + 1 : Nat) : Int)))⟩, o_] [1, 8, 25, 26, 27, 32, 33, 34] [0, 1] (fun _ _ => by kernel_rfl) ⟨wrapEq (by omega) (by omega) (by omega), trivial⟩ ?_
            refine TriL.nil (by kernel_rfl) ?_
            exact TriQ.turn ((j + 1)) (idx := [1, 8, 25, 26, 27, 32, 33, 34]) (pk := [0]) (show (((j + 1)) ≤ (nd ns i).ents.length) from (by omega)) (by show (nd ns i).ents.length - ((j + 1)) < (nd ns i).ents.length - j; omega) (fun _ => by kernel_rfl) rfl (by kernel_rfl)
          · refine Tri.skip ?_
            refine TriQ.blockNormal ?_
            refine TriQ.next ?_
            refine Tri.region ?_
            refine TriL.slot 8 (.int .i64 (((cntAll ns id i + cntRow (nd ns i).ents id j : Nat) : Int))) (.int .i64 (((cntAll ns id i + cntRow (nd ns i).ents id (j + 1) : Nat) : Int))) (fun _ => by kernel_rfl) (by rw [← cntRow_miss h41]) ?_
            refine TriL.seg (k' := 2) (fr' := [(1, .int .i64 (id)), (8, .int .i64 (((cntAll ns id i + cntRow (nd ns i).ents id (j + 1) : Nat) : Int))), (25, .slice A (ns.length) (c)), (26, .int .i64 (((ns.length : Nat) : Int))), (27, .int .i64 (((i : Nat) : Int))), (32, .slice (L.eA i) ((nd ns i).ents.length) ((L.eC i))), (33, .int .i64 ((((nd ns i).ents.length : Nat) : Int))), (34, .int .i64 (((j + 1 : Nat) : Int)))]) (hps' := [.abs R, .blk b3 [.string (en (nd ns i).ents j).name, .int .i64 ((en (nd ns i).ents j).id)] 72]) (obl := [(Value.int .i64 (IntKind.wrap .i64 (((j : Nat) : Int) + 1))) = (.int .i64 (((j + 1 : Nat) : Int)))]) [⟨[], none, none, none, some (.int .i64 (((j + 1 : Nat) : Int)))⟩, o_] [1, 8, 25, 26, 27, 32, 33, 34] [0, 1] (fun _ _ => by kernel_rfl) ⟨wrapEq (by omega) (by omega) (by omega), trivial⟩ ?_
            refine TriL.nil (by kernel_rfl) ?_
            exact TriQ.turn ((j + 1)) (idx := [1, 8, 25, 26, 27, 32, 33, 34]) (pk := [0]) (show (((j + 1)) ≤ (nd ns i).ents.length) from (by omega)) (by show (nd ns i).ents.length - ((j + 1)) < (nd ns i).ents.length - j; omega) (fun _ => by kernel_rfl) rfl (by kernel_rfl)
        · refine Tri.exit ?_
          refine TriQ.passExit ?_
          refine TriQ.passExit ?_
          refine TriQ.blockHit ?_
          refine TriQ.blockNormal ?_
          refine TriQ.next ?_
          refine Tri.region ?_
          refine TriL.slot 8 (.int .i64 (((cntAll ns id i + cntRow (nd ns i).ents id j : Nat) : Int))) (.int .i64 (((cntAll ns id (i + 1) : Nat) : Int))) (fun _ => by kernel_rfl) (by rw [cntAll, show j = (nd ns i).ents.length by omega]) ?_
          refine TriL.seg (k' := 2) (fr' := [(1, .int .i64 (id)), (8, .int .i64 (((cntAll ns id (i + 1) : Nat) : Int))), (25, .slice A (ns.length) (c)), (26, .int .i64 (((ns.length : Nat) : Int))), (27, .int .i64 (((i + 1 : Nat) : Int)))]) (hps' := [.abs R]) (obl := [(Value.int .i64 (IntKind.wrap .i64 (((i : Nat) : Int) + 1))) = (.int .i64 (((i + 1 : Nat) : Int)))]) [⟨[], none, none, none, some (.int .i64 (((i + 1 : Nat) : Int)))⟩, o_] [1, 8, 25, 26, 27] [0] (fun _ _ => by kernel_rfl) ⟨wrapEq (by omega) (by omega) (by omega), trivial⟩ ?_
          refine TriL.nil (by kernel_rfl) ?_
          exact TriQ.turn ((i + 1)) (idx := [1, 8, 25, 26, 27]) (pk := [0]) (show (((i + 1)) ≤ ns.length) from (by omega)) (by show ns.length - ((i + 1)) < ns.length - i; omega) (fun _ => by kernel_rfl) rfl (by kernel_rfl)
      · refine Tri.exit ?_
        refine TriQ.passExit ?_
        refine TriQ.passExit ?_
        refine TriQ.blockHit ?_
        refine TriQ.next ?_
        refine Tri.seq ?_
        refine Tri.region ?_
        refine TriL.seg (k' := 3) (fr' := [(4, .int .i64 (((cntAll ns id i : Nat) : Int))), (5, .int .i64 0)]) (hps' := [.abs R]) (obl := []) [o_, o_, o_] [4, 5] [0] (fun _ _ => by kernel_rfl) trivial ?_
        refine TriL.nil (by kernel_rfl) ?_
        refine TriQ.next ?_
        refine Tri.ret ?_
        exact TriQ.ret (v := .tuple #[.int .i64 (((cntAll ns id i : Nat) : Int)), .int .i64 0]) (l := []) (obl := []) [] [0] (fun _ => by kernel_rfl) trivial rfl (by kernel_rfl) (⟨by rw [linksG_ok hok hat, show ns.length = i by omega], rfl⟩)
    · refine TriL.mapLook 0 (d := (some 22)) (t := 66) (K := 3) (E := 75) (b := mb) (n := ns.length) (f := (mf (bf A ns ns.length))) (x := (.tmp 20)) (ix := (.tmp 21)) (key := .int .i64 (id)) (z := .pointer none) (kl := (.int .i64 id)) (r := none) (fun _ => by kernel_rfl) (by kernel_rfl) (fun _ => by kernel_rfl) (fun _ => by kernel_rfl) lawI Try.underlying66 (fun _ => by kernel_rfl) (keyI hz.1 hz.2) (bf_none hat) ?_
      refine TriL.seg (k' := 4) (fr' := [(1, .int .i64 (id)), (2, .pointer (some ⟨b1, 0, none⟩)), (23, .bool true)]) (hps' := [.abs (MapA Try.prog 3 mb (mf (bf A ns ns.length)) ns.length), .abs R, .blk b1 [.slice A (ns.length) (c)] 24]) (obl := []) [o_] [1, 2, 23] [0, 1, 2] (fun _ _ => by kernel_rfl) trivial ?_
      refine TriL.nil (by kernel_rfl) ?_
      refine TriQ.next ?_
      refine Tri.condT (fun _ => by kernel_rfl) ?_
      refine Tri.seq ?_
      refine Tri.region ?_
      refine TriL.seg (k' := 2) (fr' := [(4, .int .i64 0), (5, .int .i64 141)]) (hps' := [.abs (MapA Try.prog 3 mb (mf (bf A ns ns.length)) ns.length), .abs R, .blk b1 [.slice A (ns.length) (c)] 24]) (obl := []) [o_, o_] [4, 5] [0, 1, 2] (fun _ _ => by kernel_rfl) trivial ?_
      refine TriL.nil (by kernel_rfl) ?_
      refine TriQ.next ?_
      refine Tri.ret ?_
      refine TriQ.passRet ?_
      exact TriQ.ret (v := .tuple #[.int .i64 0, .int .i64 141]) (l := []) (obl := []) [] [1] (fun _ => by kernel_rfl) trivial rfl (by kernel_rfl) (⟨by rw [linksG_none hok hat], rfl⟩)
  · refine TriL.seg (k' := 7) (fr' := [(1, .int .i64 (id)), (2, .pointer (some ⟨b1, 0, none⟩)), (6, m), (7, .bool false)]) (hps' := [.abs R, .blk b1 [.slice A (ns.length) (c)] 24]) (obl := []) [o_, o_, o_, o_, o_] [1, 2, 6, 7] [0, 1] (fun _ _ => by kernel_rfl) trivial ?_
    refine TriL.nil (by kernel_rfl) ?_
    refine TriQ.next ?_
    refine Tri.seq ?_
    refine Tri.seq ?_
    refine Tri.region ?_
    refine TriL.seg (k' := 2) (fr' := [(1, .int .i64 (id)), (2, .pointer (some ⟨b1, 0, none⟩)), (6, m), (19, .bool true)]) (hps' := [.abs R, .blk b1 [.slice A (ns.length) (c)] 24]) (obl := []) [o_, o_] [1, 2, 6, 19] [0, 1] (fun _ _ => by kernel_rfl) trivial ?_
    refine TriL.nil (by kernel_rfl) ?_
    refine TriQ.next ?_
    refine Tri.condT (fun _ => by kernel_rfl) ?_
    refine Tri.seq ?_
    refine Tri.region ?_
    refine TriL.seg (k' := 2) (fr' := [(4, .int .i64 0), (5, .int .i64 140)]) (hps' := [.abs R, .blk b1 [.slice A (ns.length) (c)] 24]) (obl := []) [o_, o_] [4, 5] [0, 1] (fun _ _ => by kernel_rfl) trivial ?_
    refine TriL.nil (by kernel_rfl) ?_
    refine TriQ.next ?_
    refine Tri.ret ?_
    refine TriQ.passRet ?_
    exact TriQ.ret (v := .tuple #[.int .i64 0, .int .i64 140]) (l := []) (obl := []) [] [0] (fun _ => by kernel_rfl) trivial rfl (by kernel_rfl) (⟨by rw [linksG_bad hok], rfl⟩)
set_option maxRecDepth 100000 in
set_option maxHeartbeats 4000000 in
theorem sp_refLinks {β : Bs} (A : Option Addr) (c : Nat) (ns : List NodeM) (L : Lay) (hG : GraphAt β A ns L) (hB : GraphB ns 1048576) (id : Int) :
    Spec Try.prog β 20 #[.agg #[.slice A ns.length c], .int .i64 id] [] (fun v l => v = .tuple #[.int .i64 (linksG ns id).1, .int .i64 (linksG ns id).2] ∧ l = []) := by
  refine Spec.enter Try.func20 rfl Try.ntmps20 (Nat.le_of_ble_eq_true rfl) (fun R => ?_)
  refine Tri.seq ?_
  refine Tri.region ?_
  refine TriL.segN (k' := 3) (fr' := fun b4 => [(1, .int .i64 (id)), (2, .pointer (some ⟨b4, 0, none⟩))]) (hps' := fun b4 => [.abs R, .blk b4 [.slice A (ns.length) (c)] 24]) (obl := fun b4 => []) [o_, o_, o_] [1, 2] [0, 1] (fun _ _ => by kernel_rfl) (fun b4 => trivial) (fun b4 => ?_)
  show TriL _ _ _ _ _ [(1, .int .i64 (id)), (2, .pointer (some ⟨b4, 0, none⟩))] [.abs R, .blk b4 [.slice A (ns.length) (c)] 24] _
  refine TriL.nil (by kernel_rfl) ?_
  refine TriQ.next ?_
  refine Tri.seq ?_
  refine Tri.seq ?_
  refine Tri.region ?_
  refine TriL.seg (k' := 1) (fr' := [(1, .int .i64 (id)), (2, .pointer (some ⟨b4, 0, none⟩)), (9, .agg #[.slice A (ns.length) (c)])]) (hps' := [.abs R, .blk b4 [.slice A (ns.length) (c)] 24]) (obl := [b4 = b4]) [⟨[.at 1], none, none, none, none⟩] [1, 2, 9] [0, 1] (fun _ _ => by kernel_rfl) ⟨rfl, trivial⟩ ?_
  refine TriL.call (f := 16) (args := #[.agg #[.slice A (ns.length) (c)]]) (d := (some 10)) (pre := []) (R := [.abs R, .blk b4 [.slice A (ns.length) (c)] 24]) (pk := [0, 1]) (fun _ => by kernel_rfl) (sp_refCheck A c ns L hG hB.hl hB.hd hB.hwf hB.hnm hB.ht) rfl (by kernel_rfl) ?_
  rintro _ _ ⟨rfl, rfl⟩
  refine TriL.seg (k' := 3) (fr' := [(1, .int .i64 (id)), (2, .pointer (some ⟨b4, 0, none⟩)), (11, .bool (!(decide (((if GraphOk ns then 0 else 140) : Int) = (0 : Int)))))]) (hps' := [.abs R, .blk b4 [.slice A (ns.length) (c)] 24]) (obl := []) [o_] [1, 2, 11] [0, 1] (fun _ _ => by kernel_rfl) trivial ?_
  refine TriL.nil (by kernel_rfl) ?_
  refine TriQ.next ?_
  refine Tri.condN (p := ((if GraphOk ns then 0 else 140) : Int) = (0 : Int)) (fun _ => by kernel_rfl) (fun h11 => ?_) (fun h11 => ?_)
  · have hok : ¬ GraphOk ns := fun hc => h11 (if_pos hc)
    refine Tri.seq ?_
    refine Tri.region ?_
    refine TriL.seg (k' := 2) (fr' := [(4, .int .i64 0), (5, .int .i64 140)]) (hps' := [.abs R, .blk b4 [.slice A (ns.length) (c)] 24]) (obl := []) [o_, o_] [4, 5] [0, 1] (fun _ _ => by kernel_rfl) trivial ?_
    refine TriL.nil (by kernel_rfl) ?_
    refine TriQ.next ?_
    refine Tri.ret ?_
    refine TriQ.passRet ?_
    exact TriQ.ret (v := .tuple #[.int .i64 0, .int .i64 140]) (l := []) (obl := []) [] [0] (fun _ => by kernel_rfl) trivial rfl (by kernel_rfl) (⟨by rw [linksG_bad hok], rfl⟩)
  · have hok : GraphOk ns := Classical.byContradiction (fun hc => absurd (h11.symm.trans (if_neg hc)) (by decide))
    refine Tri.skip ?_
    refine TriQ.next ?_
    refine Tri.seq ?_
    refine Tri.seq ?_
    refine Tri.region ?_
    refine TriL.seg (k' := 2) (fr' := [(1, .int .i64 (id)), (2, .pointer (some ⟨b4, 0, none⟩)), (12, .agg #[.slice A (ns.length) (c)]), (13, .int .i64 (id))]) (hps' := [.abs R, .blk b4 [.slice A (ns.length) (c)] 24]) (obl := [b4 = b4]) [⟨[.at 1], none, none, none, none⟩, o_] [1, 2, 12, 13] [0, 1] (fun _ _ => by kernel_rfl) ⟨rfl, trivial⟩ ?_
    refine TriL.call (f := 29) (args := #[.agg #[.slice A (ns.length) (c)], .int .i64 (id)]) (d := (some 14)) (pre := []) (R := [.abs R, .blk b4 [.slice A (ns.length) (c)] 24]) (pk := [0, 1]) (fun _ => by kernel_rfl) (sp_at A c ns L hG hok.rise hB.hl id) rfl (by kernel_rfl) ?_
    rintro _ _ ⟨rfl, rfl⟩
    refine TriL.seg (k' := 4) (fr' := [(1, .int .i64 (id)), (2, .pointer (some ⟨b4, 0, none⟩)), (15, .bool (decide ((atI ns id : Int) < (0 : Int))))]) (hps' := [.abs R, .blk b4 [.slice A (ns.length) (c)] 24]) (obl := []) [o_] [1, 2, 15] [0, 1] (fun _ _ => by kernel_rfl) trivial ?_
    refine TriL.nil (by kernel_rfl) ?_
    refine TriQ.next ?_
    refine Tri.condP (p := (atI ns id : Int) < (0 : Int)) (fun _ => by kernel_rfl) (fun h15 => ?_) (fun h15 => ?_)
    · have hat : ¬ 0 ≤ atI ns id := by omega
      refine Tri.seq ?_
      refine Tri.region ?_
      refine TriL.seg (k' := 2) (fr' := [(4, .int .i64 0), (5, .int .i64 141)]) (hps' := [.abs R, .blk b4 [.slice A (ns.length) (c)] 24]) (obl := []) [o_, o_] [4, 5] [0, 1] (fun _ _ => by kernel_rfl) trivial ?_
      refine TriL.nil (by kernel_rfl) ?_
      refine TriQ.next ?_
      refine Tri.ret ?_
      refine TriQ.passRet ?_
      exact TriQ.ret (v := .tuple #[.int .i64 0, .int .i64 141]) (l := []) (obl := []) [] [0] (fun _ => by kernel_rfl) trivial rfl (by kernel_rfl) (⟨by rw [linksG_none hok hat], rfl⟩)
    · have hat : 0 ≤ atI ns id := by omega
      refine Tri.skip ?_
      refine TriQ.next ?_
      refine Tri.seq ?_
      refine Tri.region ?_
      refine TriL.seg (k' := 1) (fr' := [(1, .int .i64 (id)), (2, .pointer (some ⟨b4, 0, none⟩)), (6, .int .i64 0)]) (hps' := [.abs R, .blk b4 [.slice A (ns.length) (c)] 24]) (obl := []) [o_] [1, 2, 6] [0, 1] (fun _ _ => by kernel_rfl) trivial ?_
      refine TriL.nil (by kernel_rfl) ?_
      refine TriQ.next ?_
      refine Tri.seq ?_
      refine Tri.seq ?_
      refine Tri.region ?_
      refine TriL.seg (k' := 1) (fr' := [(1, .int .i64 (id)), (2, .pointer (some ⟨b4, 0, none⟩)), (6, .int .i64 0), (7, .int .i64 0)]) (hps' := [.abs R, .blk b4 [.slice A (ns.length) (c)] 24]) (obl := []) [o_] [1, 2, 6, 7] [0, 1] (fun _ _ => by kernel_rfl) trivial ?_
      refine TriL.nil (by kernel_rfl) ?_
      refine TriQ.next ?_
      refine Tri.block ?_
      refine Tri.loop (ι := Nat) (fun (i : Nat) => (i ≤ ns.length)) (fun (i : Nat) => ns.length - i) (fun (i : Nat) => [(1, .int .i64 (id)), (2, .pointer (some ⟨b4, 0, none⟩)), (6, .int .i64 (((cntAll ns id i : Nat) : Int))), (7, .int .i64 (((i : Nat) : Int)))]) (fun (i : Nat) => [.blk b4 [.slice A (ns.length) (c)] 24, .abs R]) 0 (idx := [1, 2, 6, 7]) (pk := [1, 0]) (show (0 ≤ ns.length) from Nat.zero_le _) (fun _ => by kernel_rfl) rfl (by kernel_rfl) ?_
      rintro i hi
      show Tri _ _ _ _ [(1, .int .i64 (id)), (2, .pointer (some ⟨b4, 0, none⟩)), (6, .int .i64 (((cntAll ns id i : Nat) : Int))), (7, .int .i64 (((i : Nat) : Int)))] [.blk b4 [.slice A (ns.length) (c)] 24, .abs R] _
      have hcb := cntAll_le hok.sum id hi
      have hll := hB.hl
      refine Tri.seq ?_
      refine Tri.seq ?_
      refine Tri.region ?_
      refine TriL.seg (k' := 5) (fr' := [(1, .int .i64 (id)), (2, .pointer (some ⟨b4, 0, none⟩)), (6, .int .i64 (((cntAll ns id i : Nat) : Int))), (7, .int .i64 (((i : Nat) : Int))), (20, .bool (decide ((((i : Nat) : Int) : Int) < (((ns.length : Nat) : Int) : Int))))]) (hps' := [.blk b4 [.slice A (ns.length) (c)] 24, .abs R]) (obl := [b4 = b4]) [o_, o_, ⟨[.at 0], none, none, none, none⟩, o_, o_] [1, 2, 6, 7, 20] [0, 1] (fun _ _ => by kernel_rfl) ⟨rfl, trivial⟩ ?_
      refine TriL.nil (by kernel_rfl) ?_
      refine TriQ.next ?_
      refine Tri.condP (p := (((i : Nat) : Int) : Int) < (((ns.length : Nat) : Int) : Int)) (fun _ => by kernel_rfl) (fun h20 => ?_) (fun h20 => ?_)
      · refine Tri.skip ?_
        refine TriQ.next ?_
        refine Tri.seq ?_
        refine Tri.block ?_
        refine Tri.seq ?_
        refine Tri.region ?_
        refine TriL.seg (k' := 1) (fr' := [(1, .int .i64 (id)), (2, .pointer (some ⟨b4, 0, none⟩)), (6, .int .i64 (((cntAll ns id i : Nat) : Int))), (7, .int .i64 (((i : Nat) : Int))), (8, .int .i64 0)]) (hps' := [.blk b4 [.slice A (ns.length) (c)] 24, .abs R]) (obl := []) [o_] [1, 2, 6, 7, 8] [0, 1] (fun _ _ => by kernel_rfl) trivial ?_
        refine TriL.nil (by kernel_rfl) ?_
        refine TriQ.next ?_
        refine Tri.block ?_
        refine Tri.loop (ι := Nat) (fun (j : Nat) => (j ≤ (nd ns i).ents.length)) (fun (j : Nat) => (nd ns i).ents.length - j) (fun (j : Nat) => [(1, .int .i64 (id)), (2, .pointer (some ⟨b4, 0, none⟩)), (6, .int .i64 (((cntAll ns id i + cntRow (nd ns i).ents id j : Nat) : Int))), (7, .int .i64 (((i : Nat) : Int))), (8, .int .i64 (((j : Nat) : Int)))]) (fun (j : Nat) => [.blk b4 [.slice A (ns.length) (c)] 24, .abs R]) 0 (idx := [1, 2, 6, 7, 8]) (pk := [0, 1]) (show (0 ≤ (nd ns i).ents.length) from Nat.zero_le _) (fun _ => by kernel_rfl) rfl (by kernel_rfl) ?_
        rintro j hj
        show Tri _ _ _ _ [(1, .int .i64 (id)), (2, .pointer (some ⟨b4, 0, none⟩)), (6, .int .i64 (((cntAll ns id i + cntRow (nd ns i).ents id j : Nat) : Int))), (7, .int .i64 (((i : Nat) : Int))), (8, .int .i64 (((j : Nat) : Int)))] [.blk b4 [.slice A (ns.length) (c)] 24, .abs R] _
        have hrb := cntRow_le (nd ns i).ents id j
        have hd3 := hB.hd i (by omega)
        refine Tri.seq ?_
        refine Tri.seq ?_
        refine Tri.region ?_
        refine TriL.seg (k' := 9) (fr' := [(1, .int .i64 (id)), (2, .pointer (some ⟨b4, 0, none⟩)), (6, .int .i64 (((cntAll ns id i + cntRow (nd ns i).ents id j : Nat) : Int))), (7, .int .i64 (((i : Nat) : Int))), (8, .int .i64 (((j : Nat) : Int))), (31, .bool (decide ((((j : Nat) : Int) : Int) < ((((nd ns i).ents.length : Nat) : Int) : Int))))]) (hps' := [.blk b4 [.slice A (ns.length) (c)] 24, .abs R]) (obl := [(Rd β ⟨(blkOf A), offOf A + i * 10 + 9, none⟩ (.slice (L.eA i) ((nd ns i).ents.length) ((L.eC i)))), ((i : Nat) : Int) = ((i : Nat) : Int), i < ns.length, (⟨(blkOf A), offOf A, none⟩ : Addr).spot = none, (A : Option Addr) = some ⟨(blkOf A), offOf A, none⟩, b4 = b4]) [o_, o_, ⟨[.at 0], none, none, none, none⟩, o_, ⟨[], some i, none, some ⟨(blkOf A), offOf A, none⟩, none⟩, o_, ⟨[.old (.slice (L.eA i) ((nd ns i).ents.length) ((L.eC i)))], none, none, none, none⟩, o_, o_] [1, 2, 6, 7, 8, 31] [0, 1] (fun _ _ => by kernel_rfl) ⟨GraphAt.rd hG (i := i) (by omega) (j := 9) rfl, rfl, by omega, rfl, GraphAt.hd hG (i := i) (by omega), rfl, trivial⟩ ?_
        refine TriL.nil (by kernel_rfl) ?_
        refine TriQ.next ?_
        refine Tri.condP (p := (((j : Nat) : Int) : Int) < ((((nd ns i).ents.length : Nat) : Int) : Int)) (fun _ => by kernel_rfl) (fun h31 => ?_) (fun h31 => ?_)
        · refine Tri.skip ?_
          refine TriQ.next ?_
          refine Tri.seq ?_
          refine Tri.block ?_
          refine Tri.seq ?_
          refine Tri.region ?_
          refine TriL.seg (k' := 12) (fr' := [(1, .int .i64 (id)), (2, .pointer (some ⟨b4, 0, none⟩)), (6, .int .i64 (((cntAll ns id i + cntRow (nd ns i).ents id j : Nat) : Int))), (7, .int .i64 (((i : Nat) : Int))), (8, .int .i64 (((j : Nat) : Int))), (45, .bool (decide (((en (nd ns i).ents j).id : Int) = (id : Int))))]) (hps' := [.blk b4 [.slice A (ns.length) (c)] 24, .abs R]) (obl := [(Rd β ⟨(blkOf (L.eA i)), offOf (L.eA i) + j * 2 + 1, none⟩ (.int .i64 ((en (nd ns i).ents j).id))), ((j : Nat) : Int) = ((j : Nat) : Int), j < (nd ns i).ents.length, (⟨(blkOf (L.eA i)), offOf (L.eA i), none⟩ : Addr).spot = none, ((L.eA i) : Option Addr) = some ⟨(blkOf (L.eA i)), offOf (L.eA i), none⟩, (Rd β ⟨(blkOf A), offOf A + i * 10 + 9, none⟩ (.slice (L.eA i) ((nd ns i).ents.length) ((L.eC i)))), ((i : Nat) : Int) = ((i : Nat) : Int), i < ns.length, (⟨(blkOf A), offOf A, none⟩ : Addr).spot = none, (A : Option Addr) = some ⟨(blkOf A), offOf A, none⟩, b4 = b4]) [o_, ⟨[.at 0], none, none, none, none⟩, o_, ⟨[], some i, none, some ⟨(blkOf A), offOf A, none⟩, none⟩, o_, ⟨[.old (.slice (L.eA i) ((nd ns i).ents.length) ((L.eC i)))], none, none, none, none⟩, o_, ⟨[], some j, none, some ⟨(blkOf (L.eA i)), offOf (L.eA i), none⟩, none⟩, o_, ⟨[.old (.int .i64 ((en (nd ns i).ents j).id))], none, none, none, none⟩, o_, o_] [1, 2, 6, 7, 8, 45] [0, 1] (fun _ _ => by kernel_rfl) ⟨EntsAt.rd (hG.ents i (by omega)) (i := j) (by omega) (j := 1) rfl, rfl, by omega, rfl, EntsAt.hd (hG.ents i (by omega)) (i := j) (by omega), GraphAt.rd hG (i := i) (by omega) (j := 9) rfl, rfl, by omega, rfl, GraphAt.hd hG (i := i) (by omega), rfl, trivial⟩ ?_
          refine TriL.nil (by kernel_rfl) ?_
          refine TriQ.next ?_
          refine Tri.condP (p := ((en (nd ns i).ents j).id : Int) = (id : Int)) (fun _ => by kernel_rfl) (fun h45 => ?_) (fun h45 => ?_)
          · refine Tri.region ?_
            refine TriL.seg (k' := 3) (fr' := [(1, .int .i64 (id)), (2, .pointer (some ⟨b4, 0, none⟩)), (6, .int .i64 ((((cntAll ns id i + cntRow (nd ns i).ents id j) + 1 : Nat) : Int))), (7, .int .i64 (((i : Nat) : Int))), (8, .int .i64 (((j : Nat) : Int)))]) (hps' := [.blk b4 [.slice A (ns.length) (c)] 24, .abs R]) (obl := [(Value.int .i64 (IntKind.wrap .i64 (((cntAll ns id i + cntRow (nd ns i).ents id j : Nat) : Int) + 1))) = (.int .i64 ((((cntAll ns id i + cntRow (nd ns i).ents id j) + 1 : Nat) : Int)))]) [o_, ⟨[], none, none, none, some (.int .i64 ((((cntAll ns id i + cntRow (nd ns i).ents id j) + 1 : Nat) : Int)))⟩, o_] [1, 2, 6, 7, 8] [0, 1] (fun _ _ => by kernel_rfl) ⟨wrapEq (by omega) (by omega) (by omega), trivial⟩ ?_
            refine TriL.nil (by kernel_rfl) ?_
            refine TriQ.blockNormal ?_
            refine TriQ.next ?_
            refine Tri.region ?_
            refine TriL.slot 6 (.int .i64 ((((cntAll ns id i + cntRow (nd ns i).ents id j) + 1 : Nat) : Int))) (.int .i64 (((cntAll ns id i + cntRow (nd ns i).ents id (j + 1) : Nat) : Int))) (fun _ => by kernel_rfl) (by rw [← cntRow_hit h45, Nat.add_assoc]) ?_
            refine TriL.seg (k' := 3) (fr' := [(1, .int .i64 (id)), (2, .pointer (some ⟨b4, 0, none⟩)), (6, .int .i64 (((cntAll ns id i + cntRow (nd ns i).ents id (j + 1) : Nat) : Int))), (7, .int .i64 (((i : Nat) : Int))), (8, .int .i64 (((j + 1 : Nat) : Int)))]) (hps' := [.blk b4 [.slice A (ns.length) (c)] 24, .abs R]) (obl := [(Value.int .i64 (IntKind.wrap .i64 (((j : Nat) : Int) + 1))) = (.int .i64 (((j + 1 : Nat) : Int)))]) [o_, ⟨[], none, none, none, some (.int .i64 (((j + 1 : Nat) : Int)))⟩, o_] [1, 2, 6, 7, 8] [0, 1] (fun _ _ => by kernel_rfl) ⟨wrapEq (by omega) (by omega) (by omega), trivial⟩ ?_
            refine TriL.nil (by kernel_rfl) ?_
            exact TriQ.turn ((j + 1)) (idx := [1, 2, 6, 7, 8]) (pk := [0, 1]) (show (((j + 1)) ≤ (nd ns i).ents.length) from (by omega)) (by show (nd ns i).ents.length - ((j + 1)) < (nd ns i).ents.length - j; omega) (fun _ => by kernel_rfl) rfl (by kernel_rfl)
          · refine Tri.skip ?_
            refine TriQ.blockNormal ?_
            refine TriQ.next ?_
            refine Tri.region ?_
            refine TriL.slot 6 (.int .i64 (((cntAll ns id i + cntRow (nd ns i).ents id j : Nat) : Int))) (.int .i64 (((cntAll ns id i + cntRow (nd ns i).ents id (j + 1) : Nat) : Int))) (fun _ => by kernel_rfl) (by rw [← cntRow_miss h45]) ?_
            refine TriL.seg (k' := 3) (fr' := [(1, .int .i64 (id)), (2, .pointer (some ⟨b4, 0, none⟩)), (6, .int .i64 (((cntAll ns id i + cntRow (nd ns i).ents id (j + 1) : Nat) : Int))), (7, .int .i64 (((i : Nat) : Int))), (8, .int .i64 (((j + 1 : Nat) : Int)))]) (hps' := [.blk b4 [.slice A (ns.length) (c)] 24, .abs R]) (obl := [(Value.int .i64 (IntKind.wrap .i64 (((j : Nat) : Int) + 1))) = (.int .i64 (((j + 1 : Nat) : Int)))]) [o_, ⟨[], none, none, none, some (.int .i64 (((j + 1 : Nat) : Int)))⟩, o_] [1, 2, 6, 7, 8] [0, 1] (fun _ _ => by kernel_rfl) ⟨wrapEq (by omega) (by omega) (by omega), trivial⟩ ?_
            refine TriL.nil (by kernel_rfl) ?_
            exact TriQ.turn ((j + 1)) (idx := [1, 2, 6, 7, 8]) (pk := [0, 1]) (show (((j + 1)) ≤ (nd ns i).ents.length) from (by omega)) (by show (nd ns i).ents.length - ((j + 1)) < (nd ns i).ents.length - j; omega) (fun _ => by kernel_rfl) rfl (by kernel_rfl)
        · refine Tri.exit ?_
          refine TriQ.passExit ?_
          refine TriQ.passExit ?_
          refine TriQ.blockHit ?_
          refine TriQ.blockNormal ?_
          refine TriQ.next ?_
          refine Tri.region ?_
          refine TriL.slot 6 (.int .i64 (((cntAll ns id i + cntRow (nd ns i).ents id j : Nat) : Int))) (.int .i64 (((cntAll ns id (i + 1) : Nat) : Int))) (fun _ => by kernel_rfl) (by rw [cntAll, show j = (nd ns i).ents.length by omega]) ?_
          refine TriL.seg (k' := 3) (fr' := [(1, .int .i64 (id)), (2, .pointer (some ⟨b4, 0, none⟩)), (6, .int .i64 (((cntAll ns id (i + 1) : Nat) : Int))), (7, .int .i64 (((i + 1 : Nat) : Int)))]) (hps' := [.blk b4 [.slice A (ns.length) (c)] 24, .abs R]) (obl := [(Value.int .i64 (IntKind.wrap .i64 (((i : Nat) : Int) + 1))) = (.int .i64 (((i + 1 : Nat) : Int)))]) [o_, ⟨[], none, none, none, some (.int .i64 (((i + 1 : Nat) : Int)))⟩, o_] [1, 2, 6, 7] [0, 1] (fun _ _ => by kernel_rfl) ⟨wrapEq (by omega) (by omega) (by omega), trivial⟩ ?_
          refine TriL.nil (by kernel_rfl) ?_
          exact TriQ.turn ((i + 1)) (idx := [1, 2, 6, 7]) (pk := [0, 1]) (show (((i + 1)) ≤ ns.length) from (by omega)) (by show ns.length - ((i + 1)) < ns.length - i; omega) (fun _ => by kernel_rfl) rfl (by kernel_rfl)
      · refine Tri.exit ?_
        refine TriQ.passExit ?_
        refine TriQ.passExit ?_
        refine TriQ.blockHit ?_
        refine TriQ.next ?_
        refine Tri.seq ?_
        refine Tri.region ?_
        refine TriL.seg (k' := 3) (fr' := [(4, .int .i64 (((cntAll ns id i : Nat) : Int))), (5, .int .i64 0)]) (hps' := [.blk b4 [.slice A (ns.length) (c)] 24, .abs R]) (obl := []) [o_, o_, o_] [4, 5] [0, 1] (fun _ _ => by kernel_rfl) trivial ?_
        refine TriL.nil (by kernel_rfl) ?_
        refine TriQ.next ?_
        refine Tri.ret ?_
        exact TriQ.ret (v := .tuple #[.int .i64 (((cntAll ns id i : Nat) : Int)), .int .i64 0]) (l := []) (obl := []) [] [1] (fun _ => by kernel_rfl) trivial rfl (by kernel_rfl) (⟨by rw [linksG_ok hok hat, show ns.length = i by omega], rfl⟩)
set_option maxRecDepth 100000 in
set_option maxHeartbeats 4000000 in
theorem law_links (W : World) (A : Option Addr) (c : Nat) (ns : List NodeM) (L : Lay) (hG : GraphAt (B0 W) A ns L) (hB : GraphB ns 1048576) (id : Int) (hz : I64 id) :
    Spec Try.prog (B0 W) 4 #[.agg #[.slice A (ns.length) (c)], .int .i64 (id)] [] (fun v _ => v = .bool true) := by
  have hle0 := B0.refl W
  refine Spec.enter Try.func4 rfl Try.ntmps4 (Nat.le_of_ble_eq_true rfl) (fun R => ?_)
  refine Tri.seq ?_
  refine Tri.region ?_
  refine TriL.segN (k' := 2) (fr' := fun b5 => [(1, .int .i64 (id)), (2, .pointer (some ⟨b5, 0, none⟩))]) (hps' := fun b5 => [.abs R, .blk b5 [.slice A (ns.length) (c)] 24]) (obl := fun b5 => []) [o_, o_] [1, 2] [0, 1] (fun _ _ => by kernel_rfl) (fun b5 => trivial) (fun b5 => ?_)
  show TriL _ _ _ _ _ [(1, .int .i64 (id)), (2, .pointer (some ⟨b5, 0, none⟩))] [.abs R, .blk b5 [.slice A (ns.length) (c)] 24] _
  refine TriL.nil (by kernel_rfl) ?_
  refine TriQ.next ?_
  refine Tri.seq ?_
  refine Tri.region ?_
  refine TriL.callB (f := 19) (args := #[]) (d := (some 10)) (pre := []) (R := [.abs R, .blk b5 [.slice A (ns.length) (c)] 24]) (pk := [0, 1]) (fun _ => by kernel_rfl) (sp_little) rfl (by kernel_rfl) ?_
  rintro β0 _ _ hle_β0 ⟨B0, L0, rfl, rfl, hG0⟩
  replace hG := hG.le hle_β0
  replace hle0 := hle0.trans hle_β0
  refine TriL.call (f := 18) (args := #[.agg #[.slice B0 (3) (3)], .int .i64 7]) (d := (some 11)) (pre := []) (R := [.abs R, .blk b5 [.slice A (ns.length) (c)] 24]) (pk := [0, 1]) (fun _ => by kernel_rfl) ((sp_links B0 3 littleM L0 hG0 little_bound 7 (i64_small (by decide))).val (congrArg (fun z : Int × Int => Value.tuple #[.int .i64 z.1, .int .i64 z.2]) little_links)) rfl (by kernel_rfl) ?_
  rintro _ _ ⟨rfl, rfl⟩
  refine TriL.seg (k' := 7) (fr' := [(1, .int .i64 (id)), (2, .pointer (some ⟨b5, 0, none⟩)), (5, .int .i64 2), (6, .int .i64 0)]) (hps' := [.abs R, .blk b5 [.slice A (ns.length) (c)] 24]) (obl := []) [o_, o_, o_, o_, o_] [1, 2, 5, 6] [0, 1] (fun _ _ => by kernel_rfl) trivial ?_
  refine TriL.nil (by kernel_rfl) ?_
  refine TriQ.next ?_
  refine Tri.seq ?_
  refine Tri.seq ?_
  refine Tri.region ?_
  refine TriL.seg (k' := 6) (fr' := [(1, .int .i64 (id)), (2, .pointer (some ⟨b5, 0, none⟩)), (19, .bool false)]) (hps' := [.abs R, .blk b5 [.slice A (ns.length) (c)] 24]) (obl := []) [o_, o_, o_, o_, o_, o_] [1, 2, 19] [0, 1] (fun _ _ => by kernel_rfl) trivial ?_
  refine TriL.nil (by kernel_rfl) ?_
  refine TriQ.next ?_
  refine Tri.condF (fun _ => by kernel_rfl) ?_
  refine Tri.skip ?_
  refine TriQ.next ?_
  refine Tri.seq ?_
  refine Tri.region ?_
  refine TriL.seg (k' := 1) (fr' := [(1, .int .i64 (id)), (2, .pointer (some ⟨b5, 0, none⟩)), (21, .agg #[.slice A (ns.length) (c)])]) (hps' := [.abs R, .blk b5 [.slice A (ns.length) (c)] 24]) (obl := [b5 = b5]) [⟨[.at 1], none, none, none, none⟩] [1, 2, 21] [0, 1] (fun _ _ => by kernel_rfl) ⟨rfl, trivial⟩ ?_
  refine TriL.callB (f := 15) (args := #[.agg #[.slice A (ns.length) (c)]]) (d := (some 22)) (pre := []) (R := [.abs R, .blk b5 [.slice A (ns.length) (c)] 24]) (pk := [0, 1]) (fun _ => by kernel_rfl) (sp_copyGraph A c ns L hG hB.hl hB.hd) rfl (by kernel_rfl) ?_
  rintro β10 _ _ hle_β10 ⟨B6, c7, L8, rfl, rfl, hG9⟩
  replace hG := hG.le hle_β10
  replace hle0 := hle0.trans hle_β10
  refine TriL.seg (k' := 3) (fr' := [(1, .int .i64 (id)), (2, .pointer (some ⟨b5, 0, none⟩)), (22, .agg #[.slice B6 (ns.length) (c7)]), (23, .int .i64 (id))]) (hps' := [.abs R, .blk b5 [.slice A (ns.length) (c)] 24]) (obl := []) [o_] [1, 2, 22, 23] [0, 1] (fun _ _ => by kernel_rfl) trivial ?_
  refine TriL.call (f := 18) (args := #[.agg #[.slice B6 (ns.length) (c7)], .int .i64 (id)]) (d := (some 24)) (pre := []) (R := [.abs R, .blk b5 [.slice A (ns.length) (c)] 24]) (pk := [0, 1]) (fun _ => by kernel_rfl) (sp_links B6 c7 ns L8 hG9 hB id hz) rfl (by kernel_rfl) ?_
  rintro _ _ ⟨rfl, rfl⟩
  refine TriL.seg (k' := 9) (fr' := [(1, .int .i64 (id)), (2, .pointer (some ⟨b5, 0, none⟩)), (5, .int .i64 ((linksG ns id).1)), (6, .int .i64 ((linksG ns id).2))]) (hps' := [.abs R, .blk b5 [.slice A (ns.length) (c)] 24]) (obl := []) [o_, o_, o_, o_, o_] [1, 2, 5, 6] [0, 1] (fun _ _ => by kernel_rfl) trivial ?_
  refine TriL.nil (by kernel_rfl) ?_
  refine TriQ.next ?_
  refine Tri.seq ?_
  refine Tri.region ?_
  refine TriL.seg (k' := 2) (fr' := [(5, .int .i64 ((linksG ns id).1)), (6, .int .i64 ((linksG ns id).2)), (28, .agg #[.slice A (ns.length) (c)]), (29, .int .i64 (id))]) (hps' := [.abs R, .blk b5 [.slice A (ns.length) (c)] 24]) (obl := [b5 = b5]) [⟨[.at 1], none, none, none, none⟩, o_] [5, 6, 28, 29] [0, 1] (fun _ _ => by kernel_rfl) ⟨rfl, trivial⟩ ?_
  refine TriL.call (f := 20) (args := #[.agg #[.slice A (ns.length) (c)], .int .i64 (id)]) (d := (some 30)) (pre := []) (R := [.abs R, .blk b5 [.slice A (ns.length) (c)] 24]) (pk := [0, 1]) (fun _ => by kernel_rfl) (sp_refLinks A c ns L hG hB id) rfl (by kernel_rfl) ?_
  rintro _ _ ⟨rfl, rfl⟩
  refine TriL.seg (k' := 8) (fr' := [(5, .int .i64 ((linksG ns id).1)), (6, .int .i64 ((linksG ns id).2)), (7, .int .i64 ((linksG ns id).1)), (8, .int .i64 ((linksG ns id).2))]) (hps' := [.abs R, .blk b5 [.slice A (ns.length) (c)] 24]) (obl := []) [o_, o_, o_, o_, o_] [5, 6, 7, 8] [0, 1] (fun _ _ => by kernel_rfl) trivial ?_
  refine TriL.nil (by kernel_rfl) ?_
  refine TriQ.next ?_
  refine Tri.seq ?_
  refine Tri.region ?_
  refine TriL.seg (k' := 9) (fr' := [(4, .bool true)]) (hps' := [.abs R, .blk b5 [.slice A (ns.length) (c)] 24]) (obl := [(Value.bool (decide (((linksG ns id).2 : Int) = ((linksG ns id).2 : Int)))) = (.bool true), (Value.bool (decide (((linksG ns id).1 : Int) = ((linksG ns id).1 : Int)))) = (.bool true)]) [o_, o_, ⟨[], none, none, none, some (.bool true)⟩, o_, o_, o_, ⟨[], none, none, none, some (.bool true)⟩, o_, o_] [4] [0, 1] (fun _ _ => by kernel_rfl) ⟨by simp, by simp, trivial⟩ ?_
  refine TriL.nil (by kernel_rfl) ?_
  refine TriQ.next ?_
  refine Tri.ret ?_
  exact TriQ.retU (v := .bool true) (l := []) (obl := []) [] [0] hle0 (fun _ => by kernel_rfl) trivial rfl (by kernel_rfl) (rfl)
end Go.Proofs.Ytjpdcppdoonmdaa
