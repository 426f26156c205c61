/-
  PROVED HERE: small laws that the walk of SlotsPairs takes.
  CONDITIONS: none.
-/
import Derived.Test.YtejnhhpjlajngaaSp
namespace Go.Proofs.Ytejnhhpjlajngaa
open Go.RowKit HeapM TabM Go.Maps
theorem TA.factsM {TT : TypeId} {t : Nat} {most peak : Int} {f : Int → Value} {us : Used Int} {F : Fp} {w : World} (h : (HP.abs (TA TT t most peak (mp f us))).h F w) :
    Rising (keys us) ∧ (∀ x ∈ keys us, 1 ≤ x) ∧ (us.length : Int) ≤ most ∧ most ≤ 1024 := by
  have := TA.facts (show (TA TT t most peak (mp f us)).h F w from h)
  rw [mp_keys, mp_len] at this
  exact this
def Q4 (qs : Used Int) : Prop := ∀ p ∈ qs, 0 ≤ p.2 ∧ p.2 < 4
theorem ins_mem {h v : Int} {p : Int × Int} : ∀ {us : Used Int}, p ∈ ins h v us → p = (h, v) ∨ p ∈ us
  | [], hp => by simp [ins] at hp; exact .inl hp
  | q :: r, hp => by
    unfold ins at hp
    split at hp
    · rcases List.mem_cons.1 hp with e | e
      · exact .inl e
      · exact .inr e
    · rcases List.mem_cons.1 hp with e | e
      · exact .inr (e ▸ List.mem_cons_self)
      · rcases ins_mem e with e | e
        · exact .inl e
        · exact .inr (List.mem_cons_of_mem _ e)
theorem ins_all {h v : Int} {us : Used Int} (hq : ∀ p ∈ us, 0 ≤ p.2 ∧ p.2 < 4) (hv : 0 ≤ v ∧ v < 4) : ∀ p ∈ ins h v us, 0 ≤ p.2 ∧ p.2 < 4 := fun p hp => by
  rcases ins_mem hp with e | e
  · rw [e]; exact hv
  · exact hq p e
theorem tx_size {h y : Int} (hy : 0 ≤ (h, y).2 ∧ (h, y).2 < 4) : (((tx y : ByteArray).size : Nat) : Int) = y := by
  obtain ⟨h0, h1⟩ := hy
  simp only at h0 h1
  have : (tx y).size = y.toNat := by
    unfold tx
    rw [ByteArray.size_extract]
    show min y.toNat 4 - 0 = y.toNat
    omega
  rw [this]
  omega
section specs
variable {β : Bs}
theorem sp_at_hit {M p : Value} {A A' : Option Addr} {c c' n' k : Nat} {us : Used Int} (h : Int) (hl : us.length ≤ 1048576) (hk : idx (keys us) h = k) :
    Spec Try.prog β 18 #[.agg #[M, p, .slice A us.length c, .slice A' n' c'], .int .i64 h] [.abs (IR A A' us)] (fun r l => r = .int .i64 ((k : Nat) : Int) ∧ l = [.abs (IR A A' us)]) :=
  hk ▸ sp_at h hl
theorem sp_at_miss {M p : Value} {A A' : Option Addr} {c c' n' : Nat} {us : Used Int} (h : Int) (hl : us.length ≤ 1048576) (hk : idx (keys us) h = -1) :
    Spec Try.prog β 18 #[.agg #[M, p, .slice A us.length c, .slice A' n' c'], .int .i64 h] [.abs (IR A A' us)] (fun r l => r = .int .i64 (-1) ∧ l = [.abs (IR A A' us)]) :=
  hk ▸ sp_at h hl
end specs
theorem IR.headOf {A A' : Option Addr} {us : Used Int} {F : Fp} {w : World} {k : Nat} (h : (HP.abs (IR A A' us)).h F w) (hk : k < us.length) : ∃ g, A' = some ⟨g, 0, none⟩ := by
  obtain ⟨g, e, _⟩ := h.2.1 k (by rw [vals_len]; exact hk)
  exact ⟨g, e⟩
theorem IR.cellV {A : Option Addr} {g : Nat} {us : Used Int} {k : Nat} {x z : Int} (hk : us[k]? = some (x, z)) : ∀ F w, (IR A (some ⟨g, 0, none⟩) us).h F w → w.cell? ⟨g, k, none⟩ = some (.int .i64 z) := by
  intro F w h
  have hlt := len_of_some hk
  obtain ⟨g', e, _, hc⟩ := h.2.1 k (by rw [vals_len]; exact hlt)
  cases e
  have : at_ (vals us) k = z := by simp [at_, vals, List.getD_eq_getElem?_getD, hk]
  rw [this] at hc
  exact hc
end Go.Proofs.Ytejnhhpjlajngaa
