/-
  PROVED HERE: plain lemmas on how the reference's Put builds its lists. No program.
  CONDITIONS: none.
-/
import Derived.Test.YtejnhhpjlajngaaTabMath
namespace Go.Proofs.Ytejnhhpjlajngaa.TabM
open HeapM
variable {V : Type}

def doneAt (h : Int) (us : Used V) (i : Nat) : Bool := (us.take i).any (fun p => decide (h < p.1))
def built (h : Int) (v : V) (us : Used V) (i : Nat) : Used V := if doneAt h us i then ins h v (us.take i) else us.take i

theorem ins_in {h : Int} {v : V} : ∀ {l r : Used V}, l.any (fun p => decide (h < p.1)) = true → ins h v (l ++ r) = ins h v l ++ r
  | [], _, e => by simp at e
  | p :: l, r, e => by
    rw [List.cons_append]
    unfold ins
    by_cases hp : h < p.1
    · rw [if_pos hp, if_pos hp]; rfl
    · rw [if_neg hp, if_neg hp, ins_in (by simpa [hp] using e)]; rfl
theorem ins_out {h : Int} {v : V} : ∀ {l r : Used V}, l.any (fun p => decide (h < p.1)) = false → ins h v (l ++ r) = l ++ ins h v r
  | [], _, _ => rfl
  | p :: l, r, e => by
    rw [List.cons_append]
    have e' : ¬ h < p.1 ∧ l.any (fun p => decide (h < p.1)) = false := by
      rw [List.any_cons, Bool.or_eq_false_iff] at e
      exact ⟨by simpa using e.1, e.2⟩
    conv => lhs; unfold ins
    rw [if_neg e'.1, ins_out e'.2]; rfl
theorem take_one {us : Used V} {i : Nat} (hi : i < us.length) : us.take (i + 1) = us.take i ++ [us[i]] := List.take_succ_eq_append_getElem hi
theorem done_step {h : Int} {us : Used V} {i : Nat} (hi : i < us.length) : doneAt h us (i + 1) = (doneAt h us i || decide (h < us[i].1)) := by
  unfold doneAt; rw [take_one hi, List.any_append, List.any_cons, List.any_nil, Bool.or_false]
theorem built_done {h : Int} {v : V} {us : Used V} {i : Nat} (hi : i < us.length) (hd : doneAt h us i = true) : built h v us (i + 1) = built h v us i ++ [us[i]] := by
  unfold built
  rw [done_step hi, hd, Bool.true_or, if_pos rfl, if_pos rfl, take_one hi, ins_in hd]
theorem built_now {h : Int} {v : V} {us : Used V} {i : Nat} (hi : i < us.length) (hd : doneAt h us i = false) (hlt : h < us[i].1) : built h v us (i + 1) = (built h v us i ++ [(h, v)]) ++ [us[i]] := by
  unfold built
  have e : decide (h < us[i].1) = true := by simpa using hlt
  rw [done_step hi, hd, e, Bool.or_true, if_pos rfl, if_neg (by simp), take_one hi, ins_out hd]
  simp [ins, hlt]
theorem built_not {h : Int} {v : V} {us : Used V} {i : Nat} (hi : i < us.length) (hd : doneAt h us i = false) (hlt : ¬ h < us[i].1) : built h v us (i + 1) = built h v us i ++ [us[i]] := by
  unfold built
  have e : decide (h < us[i].1) = false := by simpa using hlt
  rw [done_step hi, hd, e, Bool.or_false, if_neg (by simp), if_neg (by simp), take_one hi]
theorem built_end_done {h : Int} {v : V} {us : Used V} (hd : doneAt h us us.length = true) : built h v us us.length = ins h v us := by
  unfold built; rw [if_pos hd, List.take_length]
theorem built_end_not {h : Int} {v : V} {us : Used V} (hd : doneAt h us us.length = false) : built h v us us.length ++ [(h, v)] = ins h v us := by
  unfold built
  rw [if_neg (by rw [hd]; simp), List.take_length]
  unfold doneAt at hd
  rw [List.take_length] at hd
  have := ins_out (v := v) (r := []) hd
  rw [List.append_nil] at this
  rw [this]; rfl
theorem built_len {h : Int} {v : V} {us : Used V} {i : Nat} : (built h v us i).length ≤ us.length + 1 := by
  unfold built
  have : (us.take i).length ≤ us.length := by simp; omega
  split
  · rw [len_ins]; omega
  · omega
theorem built_zero {h : Int} {v : V} {us : Used V} : built h v us 0 = [] := by simp [built, doneAt]
theorem keys_snoc (us : Used V) (p : Int × V) : keys (us ++ [p]) = keys us ++ [p.1] := by simp [keys]
theorem keys_len (us : Used V) : (keys us).length = us.length := by simp [keys]
theorem at_keys {us : Used V} {i : Nat} (hi : i < us.length) : at_ (keys us) i = us[i].1 := by simp [at_, keys, List.getD_eq_getElem?_getD, hi]
theorem least_le {us : Used V} (hr : Rising (keys us)) (hp : ∀ x ∈ keys us, 1 ≤ x) : 1 ≤ least us ∧ least us ∉ keys us ∧ ∀ x, 1 ≤ x → x < least us → x ∈ keys us := leastFrom_spec (keys us) 1 hr hp
theorem leastFrom_le : ∀ (ks : List Int) (h : Int), leastFrom h ks ≤ h + ks.length
  | [], h => by simp [leastFrom]
  | k :: r, h => by
    unfold leastFrom
    split
    · have := leastFrom_le r (h + 1); simp only [List.length_cons]; push_cast; omega
    · simp only [List.length_cons]; push_cast; omega
theorem least_bound (us : Used V) : least us ≤ us.length + 1 := by
  have := leastFrom_le (keys us) 1
  rw [keys_len] at this
  unfold least; omega
end Go.Proofs.Ytejnhhpjlajngaa.TabM
