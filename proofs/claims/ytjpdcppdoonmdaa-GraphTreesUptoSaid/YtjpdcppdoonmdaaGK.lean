/-
  PROVED HERE: lines as plain data; what Tree answers.
  CONDITIONS: none.
-/
import Derived.Test.YtjpdcppdoonmdaaGQ
namespace Go.Proofs.Ytjpdcppdoonmdaa
open Go.RowKit Go.Maps
structure LineM where
  path : ByteArray
  kind : Int
  mode : Int
  uid : Int
  gid : Int
  sec : Int
  nano : Int
  data : List UInt8
  target : ByteArray
  peer : ByteArray
deriving Inhabited, DecidableEq
structure LayL where
  dA : Nat → Option Addr
  dC : Nat → Nat
def ln (ls : List LineM) (i : Nat) : LineM := ls.getD i default
def lineV (A : Option Addr) (c : Nat) (l : LineM) : List Value :=
  [.string l.path, .int .i64 l.kind, .int .i64 l.mode, .int .i64 l.uid, .int .i64 l.gid, .int .i64 l.sec, .int .i64 l.nano, .slice A l.data.length c, .string l.target, .string l.peer]
def linesV (M : LayL) (ls : List LineM) : List Value := flatF (fun i l => lineV (M.dA i) (M.dC i) l) 0 ls
theorem linesV_len (M : LayL) (ls : List LineM) : (linesV M ls).length = ls.length * 10 := flatF_len (s := 10) (fun _ _ => rfl) ls 0
def LayL.put (M : LayL) (k : Nat) (A : Option Addr) (c : Nat) : LayL := ⟨fun i => if i = k then A else M.dA i, fun i => if i = k then c else M.dC i⟩
def LinesIn (β : Bs) (ls : List LineM) (M : LayL) : Prop := ∀ i, i < ls.length → BytesAt β (M.dA i) (ln ls i).data
structure LinesAt (β : Bs) (A : Option Addr) (ls : List LineM) (M : LayL) : Prop where
  row : RowB β A (linesV M ls)
  data : LinesIn β ls M
section lines
variable {β β' : Bs} {A : Option Addr} {ls : List LineM} {M : LayL}
theorem LinesIn.le (h : LinesIn β ls M) (hle : β.le β') : LinesIn β' ls M := fun i hi => (h i hi).le hle
theorem LinesAt.le (h : LinesAt β A ls M) (hle : β.le β') : LinesAt β' A ls M := ⟨h.row.le hle, LinesIn.le h.data hle⟩
theorem LinesIn.nil : LinesIn β [] M := fun i hi => absurd hi (Nat.not_lt_zero i)
theorem ln_last (ls : List LineM) (l : LineM) : ln (ls ++ [l]) ls.length = l := by simp [ln]
theorem ln_init {i : Nat} (ls : List LineM) (l : LineM) (h : i < ls.length) : ln (ls ++ [l]) i = ln ls i := by
  unfold ln
  rw [List.getD_eq_getElem?_getD, List.getD_eq_getElem?_getD, List.getElem?_append_left h]
theorem LinesIn.snoc (h : LinesIn β ls M) {l : LineM} {B : Option Addr} {c : Nat} (hB : BytesAt β B l.data) : LinesIn β (ls ++ [l]) (M.put ls.length B c) := fun i hi => by
  by_cases e : i = ls.length
  · subst e; rw [ln_last]; simpa [LayL.put] using hB
  · have hi : i < ls.length := by simp at hi; omega
    rw [ln_init _ _ hi]
    simpa [LayL.put, e] using h i hi
theorem linesV_snoc (l : LineM) (B : Option Addr) (c : Nat) : linesV M ls ++ lineV B c l = linesV (M.put ls.length B c) (ls ++ [l]) := by
  rw [linesV, linesV, flatF_snoc, Nat.zero_add]
  have e : flatF (fun i l => lineV ((M.put ls.length B c).dA i) ((M.put ls.length B c).dC i) l) 0 ls = flatF (fun i l => lineV (M.dA i) (M.dC i) l) 0 ls := flatF_congr _ _ (fun i a hi => by
    have := len_of_some hi
    have hne : ¬ 0 + i = ls.length := by omega
    simp only [LayL.put, if_neg hne])
  rw [e]
  simp [LayL.put]
theorem LinesAt.get (h : LinesAt β A ls M) {i : Nat} (hi : i < ls.length) {j : Nat} {v : Value} (hv : (lineV (M.dA i) (M.dC i) (ln ls i))[j]? = some v) : A = some ⟨blkOf A, offOf A, none⟩ ∧ Rd β ⟨blkOf A, offOf A + i * 10 + j, none⟩ v := by
  have hj : j < 10 := len_of_some hv
  have h1 := flatF_get (f := fun i l => lineV (M.dA i) (M.dC i) l) (s := 10) (fun _ _ => rfl) ls 0 i j _ (getD_some (x := default) hi) hj
  rw [Nat.zero_add] at h1
  have := h.row (i * 10 + j) v (h1.trans hv)
  rw [← Nat.add_assoc] at this
  exact this
theorem LinesAt.hd (h : LinesAt β A ls M) {i : Nat} (hi : i < ls.length) : A = some ⟨blkOf A, offOf A, none⟩ := (h.get hi (j := 0) rfl).1
theorem LinesAt.rd (h : LinesAt β A ls M) {i : Nat} (hi : i < ls.length) {j : Nat} {v : Value} (hv : (lineV (M.dA i) (M.dC i) (ln ls i))[j]? = some v) : Rd β ⟨blkOf A, offOf A + i * 10 + j, none⟩ v := (h.get hi hv).2
end lines
theorem ran_timeEq {w : World} {o : Oper} {ev : Operand → Value} {x y : Operand} {a b c d : Int} (ho : o.op = .binOp .eql 28 x y 28) (hx : ev x = .agg #[.int .i64 a, .int .i64 b]) (hy : ev y = .agg #[.int .i64 c, .int .i64 d]) :
    Ran Try.prog ev o w (.bool (decide (a = c ∧ b = d))) w := by
  obtain ⟨dst, op, type, pos, after, guard⟩ := o
  cases ho
  refine .inl ?_
  simp only [execOp, hx, hy]
  simp [go_sem]
  by_cases h1 : a = c <;> by_cases h2 : b = d <;> simp [h1, h2]
theorem lineEq {l m : LineM} (h1 : l.path = m.path) (h2 : l.kind = m.kind) (h3 : l.mode = m.mode) (h4 : l.uid = m.uid) (h5 : l.gid = m.gid) (h6 : l.sec = m.sec ∧ l.nano = m.nano) (h7 : l.target = m.target) (h8 : l.peer = m.peer) (h9 : l.data = m.data) : l = m := by
  cases l; cases m; simp_all
/-! ### what Tree answers -/
structure TS where
  out : List LineM
  fst : Nat → ByteArray
  sum : Nat
  cnt : Nat
def emptyB : ByteArray := ⟨#[]⟩
def lineOf (n : NodeM) (p peer : ByteArray) : LineM :=
  if peer = ⟨#[]⟩ then ⟨p, n.kind, n.mode, n.uid, n.gid, n.sec, n.nano, n.data, n.target, ⟨#[]⟩⟩ else ⟨p, n.kind, n.mode, n.uid, n.gid, n.sec, n.nano, [], ⟨#[]⟩, peer⟩
def push (ns : List NodeM) (k : Nat) (p : ByteArray) (s : TS) : TS :=
  if s.fst k = ⟨#[]⟩ then ⟨s.out ++ [lineOf (nd ns k) p (s.fst k)], fun j => if j = k then p else s.fst j, s.sum + p.size, s.cnt + 1⟩
  else ⟨s.out ++ [lineOf (nd ns k) p (s.fst k)], s.fst, s.sum + p.size, s.cnt⟩
theorem push_sum (ns : List NodeM) (k : Nat) (p : ByteArray) (s : TS) : (push ns k p s).sum = s.sum + p.size := by unfold push; split <;> rfl
theorem push_out (ns : List NodeM) (k : Nat) (p : ByteArray) (s : TS) : (push ns k p s).out = s.out ++ [lineOf (nd ns k) p (s.fst k)] := by unfold push; split <;> rfl
theorem push_len (ns : List NodeM) (k : Nat) (p : ByteArray) (s : TS) : (push ns k p s).out.length = s.out.length + 1 := by rw [push_out]; simp
def slash : ByteArray := ⟨#[47]⟩
def below (top : Nat) (p name : ByteArray) : ByteArray := if top = 0 then name else p ++ ⟨#[47]⟩ ++ name
def foldE {α : Type} (g : α → TS → Option TS) : List α → TS → Option TS
  | [], s => some s
  | e :: r, s => (g e s).bind (foldE g r)
def addF (ns : List NodeM) : Nat → Nat → ByteArray → TS → Option TS
  | 0, _, _, _ => none
  | f + 1, k, p, s => if 4194304 < s.sum + p.size then none else foldE (fun e s' => addF ns f (tgt ns e.id) (below s.out.length p e.name) s') (nd ns k).ents (push ns k p s)
theorem foldE_append {α : Type} {g : α → TS → Option TS} : ∀ {a b : List α} {s : TS}, foldE g (a ++ b) s = (foldE g a s).bind (foldE g b)
  | [], _, _ => rfl
  | e :: r, b, s => by
    rw [List.cons_append, foldE, foldE, Option.bind_assoc]
    congr 1
    funext s'
    exact foldE_append
theorem foldE_map {α γ : Type} {g : α → TS → Option TS} {h : γ → α} : ∀ {l : List γ} {s : TS}, foldE g (l.map h) s = foldE (fun e => g (h e)) l s
  | [], _ => rfl
  | e :: r, s => by
    rw [List.map_cons, foldE, foldE]
    congr 1
    funext s'
    exact foldE_map
/-- what is held of a state -/
structure TOk (s : TS) : Prop where
  out : s.out.length ≤ s.sum
  cnt : s.cnt ≤ s.out.length
  sum : s.sum ≤ 4194304
theorem TOk.push {ns : List NodeM} {k : Nat} {p : ByteArray} {s : TS} (h : TOk s) (hp : 1 ≤ p.size) (hs : ¬ 4194304 < s.sum + p.size) : TOk (push ns k p s) := by
  refine ⟨?_, ?_, ?_⟩
  · rw [push_len, push_sum]; have := h.out; omega
  · rw [push_len]
    have := h.cnt
    unfold Go.Proofs.Ytjpdcppdoonmdaa.push
    split
    · show s.cnt + 1 ≤ _; omega
    · show s.cnt ≤ _; omega
  · rw [push_sum]; omega
theorem below_size {top : Nat} {p n : ByteArray} (h : 1 ≤ n.size) : 1 ≤ (below top p n).size := by
  unfold below
  split
  · exact h
  · rw [ByteArray.size_append]; omega
/-- every entry's name has a letter -/
def Named (ns : List NodeM) : Prop := ∀ i, i < ns.length → ∀ j, j < (nd ns i).ents.length → 1 ≤ (ent ns i j).name.size ∧ (ent ns i j).name.size ≤ 255 ∧ tgt ns (ent ns i j).id < ns.length
theorem GraphOk.named {ns : List NodeM} (h : GraphOk ns) : Named ns := fun i hi j hj => ⟨(h.ents i hi j hj).good.1, (h.ents i hi j hj).good.2.1, (atI_lt (h.ents i hi j hj).at_).1⟩
theorem mem_en {es : List EntM} {e : EntM} (h : e ∈ es) : ∃ j, j < es.length ∧ e = en es j := by
  obtain ⟨j, hj, rfl⟩ := List.getElem_of_mem h
  refine ⟨j, hj, ?_⟩
  unfold en
  rw [List.getD_eq_getElem?_getD, List.getElem?_eq_getElem hj]
  rfl
theorem foldE_inv {α : Type} {g : α → TS → Option TS} {I : TS → Prop} : ∀ {l : List α} {s s' : TS}, (∀ e ∈ l, ∀ s s', I s → g e s = some s' → I s') → I s → foldE g l s = some s' → I s'
  | [], s, s', _, hi, h => by cases h; exact hi
  | e :: r, s, s', hg, hi, h => by
    rw [foldE] at h
    cases h1 : g e s with
    | none => rw [h1] at h; cases h
    | some s1 =>
      rw [h1] at h
      exact foldE_inv (fun e' he' => hg e' (List.mem_cons_of_mem _ he')) (hg e (List.mem_cons_self ..) s s1 hi h1) h
/-- a state behind another: more is told, and what was told stands -/
structure Behind (s s' : TS) : Prop where
  ok : TOk s'
  sum : s.sum ≤ s'.sum
  len : s.out.length ≤ s'.out.length
theorem Behind.trans {a b c : TS} (h : Behind a b) (g : Behind b c) : Behind a c := ⟨g.ok, Nat.le_trans h.sum g.sum, Nat.le_trans h.len g.len⟩
theorem below_le {top : Nat} {p n : ByteArray} (hp : p.size ≤ 4194304) (hn : n.size ≤ 255) : (below top p n).size ≤ 8388608 := by
  unfold below
  split
  · omega
  · rw [ByteArray.size_append, ByteArray.size_append]
    have : (⟨#[47]⟩ : ByteArray).size = 1 := rfl
    omega
theorem addF_behind {ns : List NodeM} (hn : Named ns) : ∀ (f k : Nat) (p : ByteArray) (s s' : TS), k < ns.length → 1 ≤ p.size → TOk s → addF ns f k p s = some s' → Behind s s' ∧ s.sum < s'.sum ∧ s.out.length < s'.out.length
  | 0, _, _, _, _, _, _, _, h => by cases h
  | f + 1, k, p, s, s', hk, hp, hs, h => by
    rw [addF] at h
    split at h
    · cases h
    · rename_i h0
      have hpush := hs.push (ns := ns) (k := k) hp h0
      have key := foldE_inv (I := fun x => Behind (push ns k p s) x) (fun e he a b ha hab => by
        obtain ⟨j, hj, rfl⟩ := mem_en he
        obtain ⟨h1, h2, h3⟩ := hn k hk j hj
        obtain ⟨h4, _, _⟩ := addF_behind hn f _ _ a b h3 (below_size h1) ha.ok hab
        exact ⟨h4.ok, Nat.le_trans ha.sum h4.sum, Nat.le_trans ha.len h4.len⟩) ⟨hpush, Nat.le_refl _, Nat.le_refl _⟩ h
      have h1 := key.sum
      have h2 := key.len
      rw [push_sum] at h1
      rw [push_len] at h2
      exact ⟨⟨key.ok, by omega, by omega⟩, by omega, by omega⟩
def TS0 : TS := ⟨[], fun _ => ⟨#[]⟩, 0, 0⟩
def dot : ByteArray := ⟨#[46]⟩
theorem TS0_ok : TOk TS0 := ⟨Nat.le_refl _, Nat.le_refl _, Nat.zero_le _⟩
/-- the lines, and the code -/
noncomputable def treeG (ns : List NodeM) (root : Int) : List LineM × Int :=
  if beginC ns root = 0 then match addF ns 4194305 (tgt ns root) ⟨#[46]⟩ TS0 with
    | some s => (s.out, 0)
    | none => ([], 142)
  else ([], beginC ns root)
theorem treeG_bad {ns : List NodeM} {root : Int} (h : ¬ beginC ns root = 0) : treeG ns root = ([], beginC ns root) := if_neg h
theorem treeG_some {ns : List NodeM} {root : Int} {s : TS} (h : beginC ns root = 0) (h1 : addF ns 4194305 (tgt ns root) ⟨#[46]⟩ TS0 = some s) : treeG ns root = (s.out, 0) := by unfold treeG; rw [if_pos h, h1]
theorem treeG_none {ns : List NodeM} {root : Int} (h : beginC ns root = 0) (h1 : addF ns 4194305 (tgt ns root) ⟨#[46]⟩ TS0 = none) : treeG ns root = ([], 142) := by unfold treeG; rw [if_pos h, h1]
/-! ### the program's map of paths -/
def fpath (ns : List NodeM) (fs : Nat → ByteArray) (z : Int) : Option Value := if 0 ≤ atI ns z ∧ ¬ fs (tgt ns z) = ⟨#[]⟩ then some (.agg #[.string (fs (tgt ns z))]) else none
theorem fpath_zero {ns : List NodeM} : mf (fpath ns TS0.fst) = fun _ => none := by
  rw [← mf_none]
  congr 1
  funext z
  exact if_neg (fun e => e.2 rfl)
theorem atI_self {ns : List NodeM} {k : Nat} (hr : Rising ns) (hk : k < ns.length) : atI ns (nd ns k).id = (k : Int) ∧ tgt ns (nd ns k).id = k := by
  have h := atI_some hr hk (rfl : (nd ns k).id = (nd ns k).id)
  refine ⟨h, ?_⟩
  unfold tgt
  rw [h]
  rfl
theorem fpath_at {ns : List NodeM} {fs : Nat → ByteArray} {k : Nat} (hr : Rising ns) (hk : k < ns.length) (h : ¬ fs k = ⟨#[]⟩) : mf (fpath ns fs) (.int .i64 (nd ns k).id) = some (.agg #[.string (fs k)]) := by
  obtain ⟨h1, h2⟩ := atI_self hr hk
  show fpath ns fs (nd ns k).id = _
  unfold fpath
  rw [if_pos ⟨by omega, by rw [h2]; exact h⟩, h2]
theorem fpath_none {ns : List NodeM} {fs : Nat → ByteArray} {k : Nat} (hr : Rising ns) (hk : k < ns.length) (h : fs k = ⟨#[]⟩) : mf (fpath ns fs) (.int .i64 (nd ns k).id) = none := by
  obtain ⟨h1, h2⟩ := atI_self hr hk
  show fpath ns fs (nd ns k).id = _
  unfold fpath
  rw [if_neg (fun e => e.2 (by rw [h2]; exact h))]
theorem fpath_upd {ns : List NodeM} {s : TS} {k : Nat} {p : ByteArray} (hr : Rising ns) (hk : k < ns.length) (h : s.fst k = ⟨#[]⟩) (hp : 1 ≤ p.size) :
    upd (mf (fpath ns s.fst)) (.int .i64 (nd ns k).id) (some (.agg #[.string p])) = mf (fpath ns (push ns k p s).fst) := by
  obtain ⟨h1, h2⟩ := atI_self hr hk
  rw [mf_upd]
  congr 1
  funext z
  have e : (push ns k p s).fst = fun j => if j = k then p else s.fst j := by unfold push; rw [if_pos h]
  have ek : (push ns k p s).fst k = p := by rw [e]; exact if_pos rfl
  have ej : ∀ j, ¬ j = k → (push ns k p s).fst j = s.fst j := fun j hj => by rw [e]; exact if_neg hj
  unfold fpath
  by_cases e1 : z = (nd ns k).id
  · subst e1
    rw [if_pos rfl, h2, ek, if_pos ⟨by omega, fun e => by rw [e] at hp; exact absurd hp (by decide)⟩]
  · rw [if_neg e1]
    by_cases e2 : 0 ≤ atI ns z
    · have e3 : ¬ tgt ns z = k := fun e3 => e1 (by rw [← (atI_lt e2).2.1, e3])
      rw [ej _ e3]
    · rw [if_neg (fun e => e2 e.1), if_neg (fun e => e2 e.1)]
theorem push_cnt_new {ns : List NodeM} {s : TS} {k : Nat} {p : ByteArray} (hr : Rising ns) (hk : k < ns.length) (h : s.fst k = ⟨#[]⟩) : (if ((mf (fpath ns s.fst)) (.int .i64 (nd ns k).id)).isSome then s.cnt else s.cnt + 1) = (push ns k p s).cnt := by
  rw [fpath_none hr hk h]
  unfold push
  rw [if_pos h]
  rfl
theorem push_old {ns : List NodeM} {s : TS} {k : Nat} {p : ByteArray} (h : ¬ s.fst k = ⟨#[]⟩) : (push ns k p s).fst = s.fst ∧ (push ns k p s).cnt = s.cnt := by
  unfold push; rw [if_neg h]; exact ⟨rfl, rfl⟩
theorem line_new (n : NodeM) (p : ByteArray) {x : ByteArray} (h : x = ⟨#[]⟩) : lineOf n p x = ⟨p, n.kind, n.mode, n.uid, n.gid, n.sec, n.nano, n.data, n.target, ⟨#[]⟩⟩ := if_pos h
theorem line_old (n : NodeM) (p : ByteArray) {x : ByteArray} (h : ¬ x = ⟨#[]⟩) : lineOf n p x = ⟨p, n.kind, n.mode, n.uid, n.gid, n.sec, n.nano, [], ⟨#[]⟩, x⟩ := if_neg h
theorem foldE_drop {es : List EntM} {j : Nat} {g : EntM → TS → Option TS} {s : TS} (hj : j < es.length) : foldE g (es.drop j) s = (g (en es j) s).bind (foldE g (es.drop (j + 1))) := by
  rw [List.drop_eq_getElem_cons hj, foldE]
  have : en es j = es[j] := by
    unfold en
    rw [List.getD_eq_getElem?_getD, List.getElem?_eq_getElem hj]
    rfl
  rw [this]
theorem foldE_end {es : List EntM} {j : Nat} {g : EntM → TS → Option TS} {s : TS} (hj : es.length ≤ j) : foldE g (es.drop j) s = some s := by
  rw [List.drop_eq_nil_of_le hj]; rfl
end Go.Proofs.Ytjpdcppdoonmdaa
