/-
  The abstract machine: YaW, YaWR, YaV, YaO.
-/
import Derived.Test.YtekbgdmemenheaaYbI
namespace Go.Ya
set_option linter.unusedVariables false
set_option linter.unusedSimpArgs false
/-! ### temporaries -/
def lk (base : Nat → AV) : List (Nat × AV) → Nat → AV
  | [], k => base k
  | (d, v) :: r, k => if k = d then v else lk base r k
def mk (n : Nat) (base : Nat → AV) (o : List (Nat × AV)) : List AV := (List.range n).map (lk base o)
def numF : Nat → List AV → List (Nat × AV)
  | _, [] => []
  | i, a :: l => (i, a) :: numF (i + 1) l
section
variable {n k d : Nat} {base : Nat → AV} {o r : List (Nat × AV)} {v : AV}
theorem lk_nil : lk base [] k = base k := rfl
theorem lk_cons : lk base ((d, v) :: r) k = if k = d then v else lk base r k := rfl
theorem mk_len : (mk n base o).length = n := by simp [mk]
theorem mk_get (hk : k < n) : (mk n base o)[k]? = some (lk base o k) := by simp [mk, hk]
theorem mk_getD (hk : k < n) : (mk n base o).getD k undefA = lk base o k := by rw [List.getD_eq_getElem?_getD, mk_get hk]; rfl
theorem mk_set (hd : d < n) : (mk n base o).set d v = mk n base ((d, v) :: o) := by
  apply List.ext_getElem? 
  intro k
  by_cases hk : k < n
  · rw [mk_get hk, List.getElem?_set, mk_len]
    by_cases e : d = k
    · subst e; simp [lk, hd]
    · rw [if_neg e, mk_get hk]; simp [lk, show ¬ k = d by omega]
  · rw [List.getElem?_eq_none (by rw [List.length_set, mk_len]; omega), List.getElem?_eq_none (by rw [mk_len]; omega)]
theorem lk_num : ∀ {l : List AV} {i k : Nat}, lk (fun _ => undefA) (numF i l) (i + k) = l.getD k undefA
  | [], i, k => rfl
  | a :: l, i, 0 => by simp [numF, lk]
  | a :: l, i, k + 1 => by
    rw [numF, lk_cons, if_neg (by omega), show i + (k + 1) = (i + 1) + k by omega, lk_num, List.getD_cons_succ]
theorem mk_args {l : List AV} (hl : l.length ≤ n) : l ++ List.replicate (n - l.length) undefA = mk n (fun _ => undefA) (numF 0 l) := by
  apply List.ext_getElem?
  intro k
  by_cases hk : k < n
  · rw [mk_get hk]
    have := @lk_num l 0 k
    rw [Nat.zero_add] at this
    rw [this]
    by_cases h2 : k < l.length
    · rw [List.getElem?_append_left h2, List.getElem?_eq_getElem h2, List.getD_eq_getElem?_getD, List.getElem?_eq_getElem h2]; rfl
    · rw [List.getElem?_append_right (by omega), List.getD_eq_getElem?_getD, List.getElem?_eq_none (l := l) (by omega), List.getElem?_replicate, if_pos (by omega)]; rfl
  · rw [List.getElem?_eq_none (by rw [List.length_append, List.length_replicate]; omega), List.getElem?_eq_none (by rw [mk_len]; omega)]
theorem mk_setI : (mk n base o).set d v = if d < n then mk n base ((d, v) :: o) else mk n base o := by
  split
  · rename_i h; exact mk_set h
  · rename_i h; exact List.set_eq_of_length_le (by rw [mk_len]; omega)
theorem mk_getI : (mk n base o).getD k undefA = if k < n then lk base o k else undefA := by
  split
  · rename_i h; exact mk_getD h
  · rename_i h; rw [List.getD_eq_getElem?_getD, List.getElem?_eq_none (by rw [mk_len]; omega)]; rfl
def Fits (base : Nat → AV) (ov : List (Nat × AV)) : List (Nat × AV) → Prop
  | [] => True
  | (k, v) :: r => lk base ov k = v ∧ Fits base ov r
theorem fits_nil {ov : List (Nat × AV)} : Fits base ov [] = True := rfl
theorem fits_cons {ov : List (Nat × AV)} : Fits base ov ((k, v) :: r) = (lk base ov k = v ∧ Fits base ov r) := rfl
theorem lk_fits {ov : List (Nat × AV)} : ∀ {o : List (Nat × AV)}, Fits base ov o → ∀ k, lk (lk base ov) o k = lk base ov k
  | [], _, k => rfl
  | (d, v) :: r, hf, k => by
    rw [lk_cons]
    split
    · rename_i e; subst e; exact hf.1.symm
    · exact lk_fits hf.2 k
theorem mk_fits {ov o : List (Nat × AV)} (hf : Fits base ov o) : mk n base ov = mk n (lk base ov) o := by
  unfold mk
  congr 1
  funext k
  exact (lk_fits hf k).symm
end
/-! ### what is left to run -/
structure At (K : AOut → Prop) (E : AOut) : Prop where
  out : K E
structure AtO (K : Option (List AV × Heap) → Prop) (E : Option (List AV × Heap)) : Prop where
  out : K E
structure AtR (K : AR → Prop) (E : AR) : Prop where
  out : K E
structure AtL (K : Option (List AV × Heap × Log) → Prop) (E : Option (List AV × Heap × Log)) : Prop where
  out : K E
abbrev CallT := Tgt → List AV → Heap → AR
noncomputable def kThen (X : Known) (SP : FuncId → Option SFunc) (self : FuncId) (rd : Option Nat) (b : SC) (K : AOut → Prop) : AOut → Prop := fun E => K (thenX X SP self rd b E)
def kBlk (id : Nat) (K : AOut → Prop) : AOut → Prop := fun E => K (code_block id E)
def kRet (rs : List SRes) (K : AR → Prop) : AOut → Prop := fun E => K (retR rs E)
def kOps (K : AOut → Prop) : Option (List AV × Heap) → Prop := fun E => K (opsR E)
def kDraw (chk : List (Nat × Nat)) (K : AOut → Prop) : Option (List AV × Heap × Log) → Prop := fun E => K (drawR chk E)
def kA (c : CallT) (l : List SOper) (d : Option Nat) (tm : List AV) (K : Option (List AV × Heap) → Prop) : AR → Prop := fun E => K (aopsR c l d tm E)
def kL (c : CallT) (l : List SOper) (d : Option Nat) (tm : List AV) (r : Option Nat) (h : Heap) (acc : Log) (K : Option (List AV × Heap × Log) → Prop) : AR → Prop := fun E => K (laccR c l d tm r h acc E)
structure AtC (X : Known) (SP : FuncId → Option SFunc) (sf : FuncId) (rd : Option Nat) (a b : SC) (tm : List AV) (h : Heap) (K : AOut → Prop) (v : AV) : Prop where
  out : K (condX X SP sf rd a b tm h v)
structure AtG (c : CallT) (d : Option Nat) (op : SOp) (l : List SOper) (tm : List AV) (h : Heap) (K : Option (List AV × Heap) → Prop) (w : Bool) (v : AV) : Prop where
  out : K (aopsG c ⟨d, op, none⟩ l tm h (match v with | .bool b => b == w | _ => false))
structure AtH (c : CallT) (d : Option Nat) (op : SOp) (l : List SOper) (tm : List AV) (h : Heap) (acc : Log) (K : Option (List AV × Heap × Log) → Prop) (w : Bool) (v : AV) : Prop where
  out : K (laccG c ⟨d, op, none⟩ l tm h acc (match v with | .bool b => b == w | _ => false))
def pickA (v a b : AV) (h : Heap) : AR := match v with
  | .bool true => some (a, h)
  | .bool false => some (b, h)
  | _ => none
theorem At.eq {K : AOut → Prop} {E : AOut} : At K E = K E := propext ⟨fun h => h.1, fun h => ⟨h⟩⟩
theorem AtO.eq {K : Option (List AV × Heap) → Prop} {E : Option (List AV × Heap)} : AtO K E = K E := propext ⟨fun h => h.1, fun h => ⟨h⟩⟩
theorem AtR.eq {K : AR → Prop} {E : AR} : AtR K E = K E := propext ⟨fun h => h.1, fun h => ⟨h⟩⟩
theorem AtL.eq {K : Option (List AV × Heap × Log) → Prop} {E : Option (List AV × Heap × Log)} : AtL K E = K E := propext ⟨fun h => h.1, fun h => ⟨h⟩⟩
section
variable {X : Known} {SP : FuncId → Option SFunc} {self : FuncId} {rd : Option Nat} {tm : List AV} {h h' : Heap} {a b L : SC} {K : AOut → Prop} {c : CallT} {l : List SOper} {d : Option Nat} {op : SOp} {v : AV} {id id' : Nat}
  {KO : Option (List AV × Heap) → Prop} {KL : Option (List AV × Heap × Log) → Prop} {KR : AR → Prop} {acc : Log} {r : Option Nat} {chk : List (Nat × Nat)} {rs : List SRes} {q : Opd} {t n : Nat} {w p : Bool} {base : Nat → AV} {o : List (Nat × AV)}
theorem AtC.eq : AtC X SP self rd a b tm h K v = K (condX X SP self rd a b tm h v) := propext ⟨fun z => z.out, fun z => .mk z⟩
theorem AtG.eq : AtG c d op l tm h KO w v = KO (aopsG c ⟨d, op, none⟩ l tm h (match v with | .bool b => b == w | _ => false)) := propext ⟨fun z => z.out, fun z => .mk z⟩
theorem AtH.eq : AtH c d op l tm h acc KL w v = KL (laccG c ⟨d, op, none⟩ l tm h acc (match v with | .bool b => b == w | _ => false)) := propext ⟨fun z => z.out, fun z => .mk z⟩
theorem w_seq : At K (xcode X SP self rd (.seq a b) tm h) = At (kThen X SP self rd b K) (xcode X SP self rd a tm h) := by rw [At.eq, At.eq, x_seq]; rfl
theorem w_block : At K (xcode X SP self rd (.block id b) tm h) = At (kBlk id K) (xcode X SP self rd b tm h) := by rw [At.eq, At.eq, x_block]; rfl
theorem w_ops : At K (xcode X SP self rd (.ops l) tm h) = AtO (kOps K) (aops (xcall X SP) l tm h) := by rw [At.eq, AtO.eq, x_ops]; rfl
theorem w_draw : At K (xcode X SP self rd (.drawOps l chk) tm h) = AtL (kDraw chk K) (lacc (xcall X SP) l tm h []) := by rw [At.eq, AtL.eq, x_drawn]; rfl
theorem w_cond : At K (xcode X SP self rd (.cond q a b) tm h) = AtC X SP self rd a b tm h K (ev tm q) := by rw [At.eq, AtC.eq, x_cond]
theorem w_ct : AtC X SP self rd a b tm h K (.bool true) = At K (xcode X SP self rd a tm h) := by rw [At.eq, AtC.eq]; rfl
theorem w_cf : AtC X SP self rd a b tm h K (.bool false) = At K (xcode X SP self rd b tm h) := by rw [At.eq, AtC.eq]; rfl
theorem w_thenN : At (kThen X SP self rd b K) (some (.normal, tm, h)) = At K (xcode X SP self rd b tm h) := by rw [At.eq, At.eq]; rfl
theorem w_thenR : At (kThen X SP self rd b K) (some (.ret, tm, h)) = At K (some (.ret, tm, h)) := by rw [At.eq, At.eq]; rfl
theorem w_thenE : At (kThen X SP self rd b K) (some (.exit id, tm, h)) = At K (some (.exit id, tm, h)) := by rw [At.eq, At.eq]; rfl
theorem w_blkN : At (kBlk id K) (some (.normal, tm, h)) = At K (some (.normal, tm, h)) := by rw [At.eq, At.eq]; rfl
theorem w_blkR : At (kBlk id K) (some (.ret, tm, h)) = At K (some (.ret, tm, h)) := by rw [At.eq, At.eq]; rfl
theorem w_blkE : At (kBlk id K) (some (.exit id', tm, h)) = if id' = id then At K (some (.normal, tm, h)) else At K (some (.exit id', tm, h)) := by
  rw [At.eq]
  unfold kBlk
  simp only [code_block]
  by_cases e : id' = id
  · rw [if_pos e, if_pos e, At.eq]
  · rw [if_neg e, if_neg e, At.eq]
theorem w_retR : At (kRet rs KR) (some (.ret, tm, h)) = AtR KR ((resA tm h rs).map fun vs => (tupA vs, h)) := by rw [At.eq, AtR.eq]; rfl
theorem w_retN : At (kRet rs KR) (some (.normal, tm, h)) = AtR KR ((resA tm h rs).map fun vs => (tupA vs, h)) := by rw [At.eq, AtR.eq]; rfl
theorem w_nil : AtO KO (aops c [] tm h) = AtO KO (some (tm, h)) := rfl
theorem w_op : AtO KO (aops c (⟨d, op, none⟩ :: l) tm h) = AtR (kA c l d tm KO) (aop c tm h op) := by rw [AtO.eq, AtR.eq, s_op]; rfl
theorem wanted_mk (ht : t < n) : wantedA (mk n base o) (some (t, w)) = (match lk base o t with | .bool b => b == w | _ => false) := by
  show (match (mk n base o)[t]? with | some (.bool b) => b == w | _ => false) = _
  rw [mk_get ht]
  cases lk base o t <;> rfl
theorem wanted_out (ht : ¬ t < n) : wantedA (mk n base o) (some (t, w)) = false := by
  show (match (mk n base o)[t]? with | some (.bool b) => b == w | _ => false) = _
  rw [List.getElem?_eq_none (by rw [mk_len]; omega)]
theorem w_guard : AtO KO (aops c (⟨d, op, some (t, w)⟩ :: l) (mk n base o) h) = if t < n then AtG c d op l (mk n base o) h KO w (lk base o t) else AtO KO (aops c l (putT (mk n base o) d undefA) h) := by
  rw [AtO.eq, AtG.eq, s_guard]
  by_cases ht : t < n
  · rw [if_pos ht, wanted_mk ht]
  · rw [if_neg ht, wanted_out ht, AtO.eq]
    rfl
theorem w_gt : AtG c d op l tm h KO true (.bool true) = AtR (kA c l d tm KO) (aop c tm h op) := by rw [AtG.eq, AtR.eq]; rfl
theorem w_gf : AtG c d op l tm h KO true (.bool false) = AtO KO (aops c l (putT tm d undefA) h) := by rw [AtG.eq, AtO.eq]; rfl
theorem w_gft : AtG c d op l tm h KO false (.bool true) = AtO KO (aops c l (putT tm d undefA) h) := by rw [AtG.eq, AtO.eq]; rfl
theorem w_gff : AtG c d op l tm h KO false (.bool false) = AtR (kA c l d tm KO) (aop c tm h op) := by rw [AtG.eq, AtR.eq]; rfl
theorem w_gu : AtG c d op l tm h KO w undefA = AtO KO (aops c l (putT tm d undefA) h) := by rw [AtG.eq, AtO.eq]; rfl
theorem w_some : AtR (kA c l d tm KO) (some (v, h')) = AtO KO (aops c l (putT tm d v) h') := by rw [AtR.eq, AtO.eq]; rfl
theorem w_opsR : AtO (kOps K) (some (tm, h)) = At K (some (.normal, tm, h)) := by rw [AtO.eq, At.eq]; rfl
theorem w_lnil : AtL KL (lacc c [] tm h acc) = AtL KL (some (tm, h, acc)) := by rw [l_nil]
theorem w_lop : AtL KL (lacc c (⟨d, op, none⟩ :: l) tm h acc) = AtR (kL c l d tm (readsA tm op) h acc KL) (aop c tm h op) := by rw [AtL.eq, AtR.eq, l_op]; rfl
theorem w_lguard : AtL KL (lacc c (⟨d, op, some (t, w)⟩ :: l) (mk n base o) h acc) = if t < n then AtH c d op l (mk n base o) h acc KL w (lk base o t) else AtL KL (lacc c l (putT (mk n base o) d undefA) h (acc ++ [(none, h, h)])) := by
  rw [AtL.eq, AtH.eq, l_guard]
  by_cases ht : t < n
  · rw [if_pos ht, wanted_mk ht]
  · rw [if_neg ht, wanted_out ht, AtL.eq]
    rfl
theorem w_ht : AtH c d op l tm h acc KL true (.bool true) = AtR (kL c l d tm (readsA tm op) h acc KL) (aop c tm h op) := by rw [AtH.eq, AtR.eq]; rfl
theorem w_hf : AtH c d op l tm h acc KL true (.bool false) = AtL KL (lacc c l (putT tm d undefA) h (acc ++ [(none, h, h)])) := by rw [AtH.eq, AtL.eq]; rfl
theorem w_hft : AtH c d op l tm h acc KL false (.bool true) = AtL KL (lacc c l (putT tm d undefA) h (acc ++ [(none, h, h)])) := by rw [AtH.eq, AtL.eq]; rfl
theorem w_hff : AtH c d op l tm h acc KL false (.bool false) = AtR (kL c l d tm (readsA tm op) h acc KL) (aop c tm h op) := by rw [AtH.eq, AtR.eq]; rfl
theorem w_hu : AtH c d op l tm h acc KL w undefA = AtL KL (lacc c l (putT tm d undefA) h (acc ++ [(none, h, h)])) := by rw [AtH.eq, AtL.eq]; rfl
theorem w_lsome : AtR (kL c l d tm r h acc KL) (some (v, h')) = AtL KL (lacc c l (putT tm d v) h' (acc ++ [(r, h, h')])) := by rw [AtR.eq, AtL.eq]; rfl
theorem w_drawR {lg : Log} : AtL (kDraw chk K) (some (tm, h, lg)) = if chkLog lg chk = true then At K (some (.normal, tm, h)) else At K none := by
  rw [AtL.eq]
  unfold kDraw
  rw [l_draw]
  split <;> rw [At.eq]
theorem w_pick {x y z : Opd} : aop c tm h (.pick x y z) = pickA (ev tm x) (ev tm y) (ev tm z) h := by
  simp only [aop, pickA]
  cases ev tm x with
  | bool b => cases b <;> rfl
  | _ => rfl
theorem w_pt {x y : AV} : pickA (.bool true) x y h = some (x, h) := rfl
theorem w_pf {x y : AV} : pickA (.bool false) x y h = some (y, h) := rfl
/-! ### branches -/
theorem atC (h1 : p = true → AtC X SP self rd a b tm h K (.bool true)) (h2 : p = false → AtC X SP self rd a b tm h K (.bool false)) : AtC X SP self rd a b tm h K (.bool p) := by
  cases p
  · exact h2 rfl
  · exact h1 rfl
theorem atG (h1 : p = true → AtG c d op l tm h KO w (.bool true)) (h2 : p = false → AtG c d op l tm h KO w (.bool false)) : AtG c d op l tm h KO w (.bool p) := by
  cases p
  · exact h2 rfl
  · exact h1 rfl
theorem atH (h1 : p = true → AtH c d op l tm h acc KL w (.bool true)) (h2 : p = false → AtH c d op l tm h acc KL w (.bool false)) : AtH c d op l tm h acc KL w (.bool p) := by
  cases p
  · exact h2 rfl
  · exact h1 rfl
theorem atP {x y : AV} (h1 : p = true → AtR KR (pickA (.bool true) x y h)) (h2 : p = false → AtR KR (pickA (.bool false) x y h)) : AtR KR (pickA (.bool p) x y h) := by
  cases p
  · exact h2 rfl
  · exact h1 rfl
end
/-! ### calls -/
def Runs (E : AR) (P : AV → Heap → Prop) : Prop := ∃ v h', E = some (v, h') ∧ P v h'
section
variable {X : Known} {SP : FuncId → Option SFunc} {E : AR} {P Q : AV → Heap → Prop} {K : AR → Prop}
theorem Runs.intro (k : ∀ K : AR → Prop, (∀ v h', P v h' → AtR K (some (v, h'))) → AtR K E) : Runs E P := (k (fun E => Runs E P) fun v h' p => ⟨⟨v, h', rfl, p⟩⟩).1
theorem Runs.call (r : Runs E P) (k : ∀ v h', P v h' → AtR K (some (v, h'))) : AtR K E := by
  obtain ⟨v, h', rfl, p⟩ := r
  exact k v h' p
theorem Runs.of {v : AV} {h' : Heap} (e : E = some (v, h')) (p : P v h') : Runs E P := ⟨v, h', e, p⟩
theorem Runs.eq {v : AV} {h : Heap} (e : E = some (v, h)) : Runs E fun v' h' => v' = v ∧ h = h' := ⟨v, h, e, rfl, rfl⟩
theorem Runs.to {v : AV} {h : Heap} (r : Runs E fun v' h' => v' = v ∧ h = h') : E = some (v, h) := by
  obtain ⟨_, _, e, rfl, rfl⟩ := r
  exact e
theorem Runs.mono (r : Runs E P) (k : ∀ v h', P v h' → Q v h') : Runs E Q := by
  obtain ⟨v, h', e, p⟩ := r
  exact ⟨v, h', e, k v h' p⟩
theorem w_fn {f : FuncId} {args : List AV} {h : Heap} {n : Nat} {rs : List SRes} {body : SC} (hx : X f args h = none) (hf : SP f = some ⟨n, rs, body⟩) (hl : args.length ≤ n) :
    AtR K (xcall X SP (.fn f) args h) = At (kRet rs K) (xcode X SP f none body (mk n (fun _ => undefA) (numF 0 args)) h) := by
  rw [AtR.eq, At.eq, x_fn hx hf, mk_args hl]
  rfl
end
/-! ### loops -/
def keeps (base : Nat → AV) (ov : List (Nat × AV)) (cs : List Nat) : List (Nat × AV) := cs.map fun k => (k, lk base ov k)
theorem keeps_nil {base : Nat → AV} {ov : List (Nat × AV)} : keeps base ov [] = [] := rfl
theorem keeps_cons {base : Nat → AV} {ov : List (Nat × AV)} {k : Nat} {cs : List Nat} : keeps base ov (k :: cs) = (k, lk base ov k) :: keeps base ov cs := rfl
theorem fits_keeps {base : Nat → AV} {ov : List (Nat × AV)} : ∀ {cs : List Nat}, Fits base ov (keeps base ov cs)
  | [] => trivial
  | _ :: _ => ⟨rfl, fits_keeps⟩
theorem fits_app {base : Nat → AV} {ov r : List (Nat × AV)} : ∀ {o : List (Nat × AV)}, Fits base ov o → Fits base ov r → Fits base ov (o ++ r)
  | [], _, h => h
  | (_, _) :: _, h, h' => ⟨h.1, fits_app h.2 h'⟩
section
variable {X : Known} {SP : FuncId → Option SFunc} {self : FuncId} {rd : Option Nat} {L : SC} {K : AOut → Prop} {n : Nat}
theorem w_unfold {B : SC} {tm : List AV} {h : Heap} (e : L = B) (k : At K (xcode X SP self rd B tm h)) : At K (xcode X SP self rd L tm h) := e ▸ k
theorem wloop {α : Type} (cs : List Nat) (o : α → List (Nat × AV)) (I : α → Heap → Prop) (m : α → Nat) {base : Nat → AV} {ov : List (Nat × AV)} {h : Heap}
    (step : ∀ x base1 h, I x h → (∀ y base' ov' h', m y < m x → Fits base' ov' (o y ++ keeps base ov cs) → I y h' → At K (xcode X SP self rd (.loop L) (mk n base' ov') h')) → At (kThen X SP self rd (.loop L) K) (xcode X SP self rd L (mk n base1 (o x ++ keeps base ov cs)) h))
    (x : α) (hf : Fits base ov (o x)) (hI : I x h) : At K (xcode X SP self rd (.loop L) (mk n base ov) h) := by
  have key : ∀ (d : Nat) (x : α) (base1 : Nat → AV) (h : Heap), m x = d → I x h → At K (xcode X SP self rd (.loop L) (mk n base1 (o x ++ keeps base ov cs)) h) := by
    intro d
    induction d using Nat.strongRecOn with
    | _ d ih =>
      intro x base1 h hd hI
      have := step x base1 h hI fun y base' ov' h' hm hf hI' => by
        rw [mk_fits hf]
        exact ih (m y) (by omega) y _ h' rfl hI'
      rw [At.eq] at this ⊢
      rw [x_loop]
      exact this
  rw [mk_fits (fits_app hf (fits_keeps (cs := cs)))]
  exact key _ x _ h rfl hI
end
end Go.Ya
namespace Go.Ya
set_option linter.unusedVariables false
set_option linter.unusedSimpArgs false
def rngN (lid : Nat) (tm : List AV) (h' : Heap) : Option AObj → AOut
  | some (.loop f t p a b st pend) => if st = .busy then none else some (pend, tm, h'.set lid (.loop f t p a b .exhausted pend))
  | _ => none
def rngR (lid : Nat) (tm : List AV) : AR → AOut
  | some (_, h') => rngN lid tm h' (h'.get lid)
  | none => none
noncomputable def rangeX (X : Known) (SP : FuncId → Option SFunc) (sf : FuncId) (ps : List Nat) (asg bd : SC) (tm : List AV) (h : Heap) (v : AV) (b : Bool) : AOut :=
  match v, b with
  | .func g first cap, true => rngR h.next tm (xcall X SP (.fn g) (first ++ [.yieldf h.next] ++ cap) (h.alloc (.loop sf tm ps asg bd .ready .normal)))
  | _, _ => none
def y2N (l : Nat) (e : AExit) (h : Heap) : Option AObj → AR
  | some (.loop f t p a b _ _) => if e = .normal then some (.bool true, h.set l (.loop f t p a b .ready .normal)) else some (.bool false, h.set l (.loop f t p a b .done e))
  | _ => none
def y2R (l : Nat) : AOut → AR
  | some (e, _, h) => y2N l e h (h.get l)
  | none => none
noncomputable def y1N (X : Known) (SP : FuncId → Option SFunc) (l : Nat) (sf : FuncId) (bd : SC) (tm : List AV) (h : Heap) : Option AObj → AR
  | some (.loop f t p a b .ready pe) => y2R l (xcode X SP sf (some l) bd tm (h.set l (.loop f t p a b .busy pe)))
  | _ => none
noncomputable def y1R (X : Known) (SP : FuncId → Option SFunc) (l : Nat) (sf : FuncId) (bd : SC) : AOut → AR
  | some (.normal, tm, h) => y1N X SP l sf bd tm h (h.get l)
  | _ => none
noncomputable def y0Z (X : Known) (SP : FuncId → Option SFunc) (l : Nat) (sf : FuncId) (asg bd : SC) (h : Heap) : Option (List AV) → AR
  | some tm => y1R X SP l sf bd (xcode X SP sf (some l) asg tm h)
  | none => none
noncomputable def y0N (X : Known) (SP : FuncId → Option SFunc) (l : Nat) (args : List AV) (h : Heap) : Option AObj → AR
  | some (.loop f tmps ps asg bd .ready _) => y0Z X SP l f asg bd h (zipSet tmps ps args)
  | _ => none
def kRng (lid : Nat) (tm : List AV) (K : AOut → Prop) : AR → Prop := fun E => K (rngR lid tm E)
noncomputable def kY1 (X : Known) (SP : FuncId → Option SFunc) (l : Nat) (sf : FuncId) (bd : SC) (K : AR → Prop) : AOut → Prop := fun E => K (y1R X SP l sf bd E)
def kY2 (l : Nat) (K : AR → Prop) : AOut → Prop := fun E => K (y2R l E)
structure AtF (X : Known) (SP : FuncId → Option SFunc) (sf : FuncId) (ps : List Nat) (asg bd : SC) (tm : List AV) (h : Heap) (K : AOut → Prop) (v : AV) (b : Bool) : Prop where
  out : K (rangeX X SP sf ps asg bd tm h v b)
structure AtN (lid : Nat) (tm : List AV) (h : Heap) (K : AOut → Prop) (o : Option AObj) : Prop where
  out : K (rngN lid tm h o)
structure AtY (X : Known) (SP : FuncId → Option SFunc) (l : Nat) (args : List AV) (h : Heap) (K : AR → Prop) (o : Option AObj) : Prop where
  out : K (y0N X SP l args h o)
structure AtZ (X : Known) (SP : FuncId → Option SFunc) (l : Nat) (sf : FuncId) (asg bd : SC) (h : Heap) (K : AR → Prop) (o : Option (List AV)) : Prop where
  out : K (y0Z X SP l sf asg bd h o)
structure AtM (X : Known) (SP : FuncId → Option SFunc) (l : Nat) (sf : FuncId) (bd : SC) (tm : List AV) (h : Heap) (K : AR → Prop) (o : Option AObj) : Prop where
  out : K (y1N X SP l sf bd tm h o)
structure AtQ (l : Nat) (e : AExit) (h : Heap) (K : AR → Prop) (o : Option AObj) : Prop where
  out : K (y2N l e h o)
section
variable {X : Known} {SP : FuncId → Option SFunc} {self : FuncId} {rd : Option Nat} {tm tm' : List AV} {h h' : Heap} {asg bd asg' bd' : SC} {K : AOut → Prop} {KR : AR → Prop} {v : AV} {l lid : Nat} {f : Opd} {ps ps' : List Nat} {g sf : FuncId} {first cap args vs : List AV} {o : Option AObj} {pe pe' : AExit} {e : AExit} {id p : Nat}
theorem AtF.eq {b : Bool} : AtF X SP sf ps asg bd tm h K v b = K (rangeX X SP sf ps asg bd tm h v b) := propext ⟨fun z => z.out, fun z => .mk z⟩
theorem AtN.eq : AtN lid tm h K o = K (rngN lid tm h o) := propext ⟨fun z => z.out, fun z => .mk z⟩
theorem AtY.eq : AtY X SP l args h KR o = KR (y0N X SP l args h o) := propext ⟨fun z => z.out, fun z => .mk z⟩
theorem AtZ.eq {o : Option (List AV)} : AtZ X SP l sf asg bd h KR o = KR (y0Z X SP l sf asg bd h o) := propext ⟨fun z => z.out, fun z => .mk z⟩
theorem AtM.eq : AtM X SP l sf bd tm h KR o = KR (y1N X SP l sf bd tm h o) := propext ⟨fun z => z.out, fun z => .mk z⟩
theorem AtQ.eq : AtQ l e h KR o = KR (y2N l e h o) := propext ⟨fun z => z.out, fun z => .mk z⟩
theorem w_range : At K (xcode X SP self rd (.rangeFunc f ps asg bd) tm h) = AtF X SP self ps asg bd tm h K (ev tm f) (rdOk h rd) := by
  rw [At.eq, AtF.eq, xcode_step]
  show K (code_range (xcall X SP) self rd f ps asg bd tm h) = _
  congr 1
theorem w_rangeF : AtF X SP sf ps asg bd tm h K (.func g first cap) true = AtR (kRng h.next tm K) (xcall X SP (.fn g) (first ++ [.yieldf h.next] ++ cap) (h.alloc (.loop sf tm ps asg bd .ready .normal))) := by rw [AtF.eq, AtR.eq]; rfl
theorem w_rng : AtR (kRng lid tm K) (some (v, h')) = AtN lid tm h' K (h'.get lid) := by rw [AtR.eq, AtN.eq]; rfl
theorem w_rngR : AtN lid tm h K (some (.loop sf tm' ps asg bd .ready pe)) = At K (some (pe, tm, h.set lid (.loop sf tm' ps asg bd .exhausted pe))) := by rw [AtN.eq, At.eq]; rfl
theorem w_rngD : AtN lid tm h K (some (.loop sf tm' ps asg bd .done pe)) = At K (some (pe, tm, h.set lid (.loop sf tm' ps asg bd .exhausted pe))) := by rw [AtN.eq, At.eq]; rfl
theorem w_yield : AtR KR (xcall X SP (.yield l) args h) = AtY X SP l args h KR (h.get l) := by
  rw [AtR.eq, AtY.eq, xcall_yield]
  congr 1
  unfold yieldF y0N
  cases h.get l with
  | none => rfl
  | some o =>
    cases o with
    | loop f t ps asg bd st pe =>
      cases st <;> try rfl
      unfold y0Z
      simp only
      cases zipSet t ps args with
      | none => rfl
      | some tm =>
        rcases xcode X SP f (some l) asg tm h with _ | ⟨_ | _ | _, tm1, h1⟩ <;> rfl
    | _ => rfl
theorem w_yN : AtY X SP l args h KR (some (.loop sf tm ps asg bd .ready pe)) = AtZ X SP l sf asg bd h KR (zipSet tm ps args) := by rw [AtY.eq, AtZ.eq]; rfl
theorem w_yZ : AtZ X SP l sf asg bd h KR (some tm) = At (kY1 X SP l sf bd KR) (xcode X SP sf (some l) asg tm h) := by rw [AtZ.eq, At.eq]; rfl
theorem w_y1 : At (kY1 X SP l sf bd KR) (some (.normal, tm, h)) = AtM X SP l sf bd tm h KR (h.get l) := by rw [At.eq, AtM.eq]; rfl
theorem w_yM : AtM X SP l sf bd tm h KR (some (.loop g tm' ps asg bd' .ready pe)) = At (kY2 l KR) (xcode X SP sf (some l) bd tm (h.set l (.loop g tm' ps asg bd' .busy pe))) := by rw [At.eq, AtM.eq]; rfl
theorem w_y2 : At (kY2 l KR) (some (e, tm, h)) = AtQ l e h KR (h.get l) := by rw [At.eq, AtQ.eq]; rfl
theorem w_yQn {st : LoopState} : AtQ l .normal h KR (some (.loop g tm' ps asg bd' st pe)) = AtR KR (some (.bool true, h.set l (.loop g tm' ps asg bd' .ready .normal))) := by rw [AtR.eq, AtQ.eq]; rfl
theorem w_yQr {st : LoopState} : AtQ l .ret h KR (some (.loop g tm' ps asg bd' st pe)) = AtR KR (some (.bool false, h.set l (.loop g tm' ps asg bd' .done .ret))) := by rw [AtR.eq, AtQ.eq]; rfl
theorem w_yQe {st : LoopState} : AtQ l (.exit id) h KR (some (.loop g tm' ps asg bd' st pe)) = AtR KR (some (.bool false, h.set l (.loop g tm' ps asg bd' .done (.exit id)))) := by rw [AtR.eq, AtQ.eq]; rfl
theorem z_nil : zipSet tm [] [] = some tm := rfl
theorem z_cons : zipSet tm (p :: ps) (v :: vs) = zipSet (tm.set p v) ps vs := rfl
theorem rdOk_none : rdOk h none = true := rfl
def rdO : Option AObj → Bool
  | some (.loop ..) => true
  | _ => false
theorem rdOk_some : rdOk h (some l) = rdO (h.get l) := by
  show (match h.get l with
    | some (.loop ..) => true
    | _ => false) = _
  cases h.get l with
  | none => rfl
  | some o => cases o <;> rfl
theorem rdO_loop {st : LoopState} : rdO (some (.loop g tm' ps asg bd' st pe)) = true := rfl
end
end Go.Ya
namespace Go.Ya
set_option linter.unusedVariables false
set_option linter.unusedSimpArgs false
def sid : AV → Nat
  | .slice id .. => id
  | _ => 0
def soff : AV → Nat
  | .slice _ off .. => off
  | _ => 0
def lenSl : AV → Option Nat
  | .nilsl => some 0
  | .slice _ _ len _ _ _ => some len
  | _ => none
def lenS (v : AV) (h : Heap) : AR := match lenSl v with
  | some n => some (.int .i64 n, h)
  | none => none
def idxS (esz : Nat) (x i : AV) (h : Heap) : AR := match x, i with
  | .slice id off len _ _ esz', .int _ i => if esz = esz' ∧ 0 ≤ i ∧ i < len then some (.ptr id (off + i.toNat * esz), h) else none
  | _, _ => none
def cutS (esz : Nat) (x : AV) (lo hi mx : Option AV) (h : Heap) : AR := (sliceA esz x lo hi mx).map fun v => (v, h)
def strS (x : AV) (h : Heap) : AR := match x with
  | .nilsl => some (.str [], h)
  | .slice id off len cap ex esz => match firstA h 1 len (.slice id off len cap ex esz) with
    | some cs => (byteCells cs).map fun s => (.str s, h)
    | none => none
  | _ => none
section
variable {c : CallT} {tm : List AV} {h : Heap} {x y i : Opd} {esz : Nat} {lo hi mx : Option Opd}
theorem w_len : aop c tm h (.len .sl x) = lenS (ev tm x) h := by
  simp only [aop, lenS]
  cases ev tm x <;> rfl
theorem w_idx : aop c tm h (.idxAddrSl esz x i) = idxS esz (ev tm x) (ev tm i) h := by
  simp only [aop, idxS]
  cases ev tm x <;> cases ev tm i <;> rfl
theorem w_cut : aop c tm h (.slice esz x lo hi mx) = cutS esz (ev tm x) (lo.map (ev tm)) (hi.map (ev tm)) (mx.map (ev tm)) h := rfl
theorem w_str : aop c tm h (.bytesToStr x) = strS (ev tm x) h := by
  simp only [aop, strS]
  cases ev tm x <;> rfl
theorem w_app {bytes : Nat} : aop c tm h (.append esz bytes x y) = appendA h esz bytes (ev tm x) (ev tm y) := rfl
theorem lenS_nil : lenS .nilsl h = some (.int .i64 0, h) := rfl
theorem lenS_sl {id off len cap esz : Nat} {ex : Bool} : lenS (.slice id off len cap ex esz) h = some (.int .i64 len, h) := rfl
theorem idxS_sl {id off len cap esz' : Nat} {ex : Bool} {k : IntKind} {j : Int} : idxS esz (.slice id off len cap ex esz') (.int k j) h = if esz = esz' ∧ 0 ≤ j ∧ j < len then some (.ptr id (off + j.toNat * esz), h) else none := rfl
end
theorem idx_at {l : List Int} {i : Nat} (hi : i < l.length) : l[i]? = some (l.getD i 0) := by simp [List.getD_eq_getElem?_getD, List.getElem?_eq_getElem hi]
theorem b_addS {ek : EqK} {a b : List Int} (h : a.length + b.length ≤ 9223372036854775807) : binA .add ek (.str a) (.str b) = some (.str (a ++ b)) := by
  show (if a.length + b.length ≤ 9223372036854775807 then some (AV.str (a ++ b)) else none) = _
  rw [if_pos h]
theorem min_nn {k : IntKind} {a b : Nat} : minA (.int k (a : Int)) [.int k (b : Int)] = some (.int k ((min a b : Nat) : Int)) := by
  simp only [minA, if_true]
  congr 2
  split <;> omega
theorem max_nn {k : IntKind} {a b : Nat} : maxA (.int k (a : Int)) [.int k (b : Int)] = some (.int k ((max a b : Nat) : Int)) := by
  simp only [maxA, if_true]
  congr 2
  split <;> omega
theorem Grow.noteR {a b : Heap} (g : Grow a b) (f : Bool) (id : Nat) : Grow a (b.note f id) := g.trans (Grow.note b f id)
/-! ### bounds -/
section
variable {k k' k'' : IntKind} {len cap : Nat} {i j m : Int}
theorem bdi_n : boundsA len cap none none none = some (0, len, cap) := rfl
theorem bdi_lh (h1 : 0 ≤ i) (h2 : i ≤ j) (h3 : j ≤ cap) : boundsA len cap (some (.int k i)) (some (.int k' j)) none = some (i.toNat, j.toNat, cap) := by
  obtain ⟨a, rfl⟩ := Int.eq_ofNat_of_zero_le h1
  obtain ⟨b, rfl⟩ := Int.eq_ofNat_of_zero_le (Int.le_trans h1 h2)
  rw [Int.toNat_natCast, Int.toNat_natCast]
  exact bd_lh (by omega) (by omega)
theorem bdi_h (h1 : 0 ≤ j) (h2 : j ≤ cap) : boundsA len cap none (some (.int k' j)) none = some (0, j.toNat, cap) := by
  obtain ⟨b, rfl⟩ := Int.eq_ofNat_of_zero_le h1
  rw [Int.toNat_natCast]
  exact bd_h (by omega)
theorem bdi_l (h1 : 0 ≤ i) (h2 : i ≤ len) : boundsA len cap (some (.int k i)) none none = some (i.toNat, len, cap) := by
  obtain ⟨a, rfl⟩ := Int.eq_ofNat_of_zero_le h1
  rw [Int.toNat_natCast]
  exact bd_l (by omega)
theorem bdi_lhm (h1 : 0 ≤ i) (h2 : i ≤ j) (h3 : j ≤ m) (h4 : m ≤ cap) : boundsA len cap (some (.int k i)) (some (.int k' j)) (some (.int k'' m)) = some (i.toNat, j.toNat, m.toNat) := by
  obtain ⟨a, rfl⟩ := Int.eq_ofNat_of_zero_le h1
  obtain ⟨b, rfl⟩ := Int.eq_ofNat_of_zero_le (Int.le_trans h1 h2)
  obtain ⟨c, rfl⟩ := Int.eq_ofNat_of_zero_le (Int.le_trans (Int.le_trans h1 h2) h3)
  rw [Int.toNat_natCast, Int.toNat_natCast, Int.toNat_natCast]
  exact bd_lhm (by omega) (by omega) (by omega)
theorem bdi_hm (h1 : 0 ≤ j) (h3 : j ≤ m) (h4 : m ≤ cap) : boundsA len cap none (some (.int k' j)) (some (.int k'' m)) = some (0, j.toNat, m.toNat) := by
  obtain ⟨b, rfl⟩ := Int.eq_ofNat_of_zero_le h1
  obtain ⟨c, rfl⟩ := Int.eq_ofNat_of_zero_le (Int.le_trans h1 h3)
  rw [Int.toNat_natCast, Int.toNat_natCast]
  exact bd_hm (by omega) (by omega)
end
section
variable {esz id off len cap : Nat} {ex : Bool} {lo hi mx : Option AV} {h : Heap}
theorem cut_nil : cutS esz .nilsl lo hi mx h = (boundsA 0 0 lo hi mx).map fun _ => (.nilsl, h) := by
  show ((boundsA 0 0 lo hi mx).map fun _ => AV.nilsl).map (fun v => (v, h)) = _
  rw [Option.map_map]; rfl
def cutB (esz id off : Nat) (ex : Bool) (h : Heap) : Option (Nat × Nat × Nat) → AR
  | some (l, hh, m) => some (.slice id (off + l * esz) (hh - l) (m - l) ex esz, h)
  | none => none
theorem cut_sl : cutS esz (.slice id off len cap ex esz) lo hi mx h = cutB esz id off (ex || mx.isSome) h (boundsA len cap lo hi mx) := by
  simp only [cutS, sliceA, if_true]
  cases boundsA len cap lo hi mx with
  | none => rfl
  | some q => rfl
theorem cutB_some {l hh m : Nat} : cutB esz id off ex h (some (l, hh, m)) = some (.slice id (off + l * esz) (hh - l) (m - l) ex esz, h) := rfl
end
/-! ### rows -/
theorem Rd.ln {esz : Nat} {h h' : Heap} {v : AV} {rows : List (List AV)} (r : Rd esz h v rows) : lenS v h' = some (.int .i64 rows.length, h') := by
  rcases r.2 with ⟨rfl, rfl⟩ | ⟨_, _, _, _, _, _, rfl, _⟩ <;> rfl
theorem Rd.cl {esz : Nat} {h : Heap} {v : AV} {rows : List (List AV)} (r : Rd esz h v rows) : v.cells = [v] := cells_of r.flat
section
variable {α : Type} {esz : Nat} {h h' : Heap} {v : AV} {l : List α} {enc : α → List AV}
theorem Rd.lnT (r : Rd esz h v (l.map enc)) (h' : Heap) : lenS v h' = some (.int .i64 l.length, h') := by
  have := r.ln (h' := h'); rwa [List.length_map] at this
theorem Rd.ix (r : Rd esz h v (l.map enc)) (h' : Heap) (k : IntKind) (i : Nat) (hi : i < l.length) : idxS esz v (.int k (i : Int)) h' = some (.ptr (sid v) (soff v + i * esz), h') := by
  rcases r.2 with ⟨rfl, e⟩ | ⟨id, off, cap, ex, c, ro, rfl, _⟩
  · have : l = [] := by simpa using e
    subst this; simp at hi
  · show (if esz = esz ∧ 0 ≤ (i : Int) ∧ (i : Int) < ((l.map enc).length : Nat) then some (AV.ptr id (off + (i : Int).toNat * esz), h') else none) = some (AV.ptr id (off + i * esz), h')
    rw [if_pos ⟨rfl, by omega, by rw [List.length_map]; omega⟩, Int.toNat_natCast]
theorem Rd.ld (d : α) (r : Rd esz h v (l.map enc)) (h' : Heap) (g : Grow h h') (i : Nat) (hi : i < l.length) : loadA h' true esz (sid v) (soff v + i * esz) = some (.agg (enc (l.getD i d))) := by
  rcases Rd.cases d r with ⟨_, rfl⟩ | ⟨id, off, cap, ex, c, ro, rfl, e2, e3, e4, e5, e6⟩
  · simp at hi
  · have := Nat.mul_le_mul_right esz (show i + 1 ≤ l.length by omega)
    rw [Nat.succ_mul] at this
    show loadA h' true esz id (off + i * esz) = _
    simp only [loadA, g.get e2, if_true]
    rw [if_pos (by omega), e5 i hi]
theorem Rd.ldk (d : α) (r : Rd esz h v (l.map enc)) (h' : Heap) (n : Nat) (g : Grow h h') (i k : Nat) (hi : i < l.length) (hk : k < esz) : loadA h' false n (sid v) (soff v + i * esz + k) = (enc (l.getD i d))[k]? := by
  rcases Rd.cases d r with ⟨_, rfl⟩ | ⟨id, off, cap, ex, c, ro, rfl, e2, e3, e4, e5, e6⟩
  · simp at hi
  · show loadA h' false n id (off + i * esz + k) = _
    simp only [loadA, g.get e2, Bool.false_eq_true, if_false]
    exact e6 i k hi hk
theorem Rd.ld0 (d : α) (r : Rd esz h v (l.map enc)) (h' : Heap) (n : Nat) (g : Grow h h') (i : Nat) (hi : i < l.length) (hk : 0 < esz) : loadA h' false n (sid v) (soff v + i * esz) = (enc (l.getD i d))[0]? := r.ldk d h' n g i 0 hi hk
end
/-! ### bytes -/
theorem BytesAt.rd {h : Heap} {v : AV} {bs : List Int} (hb : BytesAt h v bs) : Rd 1 h v (bs.map fun b => [AV.int .u8 b]) := by
  refine ⟨fun r hr => by obtain ⟨a, _, rfl⟩ := List.mem_map.1 hr; rfl, ?_⟩
  rcases hb with ⟨e1, e2⟩ | ⟨id, off, cap, ex, c, ro, e1, e2, e3, e4, e5⟩
  · exact .inl ⟨e1, by rw [e2]; rfl⟩
  · have : (bs.map fun b => [AV.int .u8 b]).flatten = ints bs := by
      clear e1 e2 e3 e4 e5
      induction bs with
      | nil => rfl
      | cons a l ih => simp only [List.map_cons, List.flatten_cons, ih]; rfl
    exact .inr ⟨id, off, cap, ex, c, ro, by rw [List.length_map]; exact e1, e3, by simpa using e4, by rw [List.length_map, Nat.mul_one, e5, this]⟩
section
variable {h : Heap} {v : AV} {bs : List Int}
theorem BytesAt.fl (hb : BytesAt h v bs) : v.flat = true := hb.rd.flat
theorem BytesAt.cl (hb : BytesAt h v bs) : v.cells = [v] := cells_of hb.fl
theorem BytesAt.ln (hb : BytesAt h v bs) (h' : Heap) : lenS v h' = some (.int .i64 bs.length, h') := by
  rcases hb with ⟨rfl, rfl⟩ | ⟨_, _, _, _, _, _, rfl, _⟩ <;> rfl
theorem BytesAt.ix (hb : BytesAt h v bs) (h' : Heap) (k : IntKind) (i : Nat) (hi : i < bs.length) : idxS 1 v (.int k (i : Int)) h' = some (.ptr (sid v) (soff v + i), h') := by
  have := hb.rd.ix h' k i hi
  rwa [Nat.mul_one] at this
theorem BytesAt.ld (hb : BytesAt h v bs) (h' : Heap) (n : Nat) (g : Grow h h') (i : Nat) (hi : i < bs.length) : loadA h' false n (sid v) (soff v + i) = some (.int .u8 (bs.getD i 0)) := by
  have := hb.rd.ld0 0 h' n g i hi (by omega)
  rw [Nat.mul_one] at this
  rw [this]; rfl
theorem byteCells_ints : ∀ bs : List Int, byteCells (ints bs) = some bs
  | [] => rfl
  | a :: l => by
    show (byteCells (ints l)).map (a :: ·) = _
    rw [byteCells_ints l]; rfl
theorem BytesAt.strR (hb : BytesAt h v bs) (h' : Heap) (g : Grow h h') : strS v h' = some (.str bs, h') := by
  have hf := (hb.grow g).first
  rcases hb with ⟨rfl, rfl⟩ | ⟨id, off, cap, ex, c, ro, rfl, _⟩
  · rfl
  · simp only [strS, hf, byteCells_ints]; rfl
end
/-! ### rules whose facts are looked for -/
structure Asm (p : Prop) : Prop where
  out : p
section
variable {h h' H : Heap} {v : AV} {bs : List Int} {i j k n : Nat} {ik : IntKind}
theorem D_ln (a : Asm (BytesAt H v bs)) : lenS v h' = some (.int .i64 bs.length, h') := a.out.ln h'
theorem D_fl (a : Asm (BytesAt H v bs)) : v.flat = true := a.out.fl
theorem D_cl (a : Asm (BytesAt H v bs)) : v.cells = [v] := a.out.cl
theorem D_ixI {i : Int} (a : Asm (BytesAt H v bs)) (h0 : 0 ≤ i) (hi : i < bs.length) : idxS 1 v (.int ik i) h' = some (.ptr (sid v) (soff v + i.toNat), h') := by
  obtain ⟨m, rfl⟩ := Int.eq_ofNat_of_zero_le h0
  rw [Int.toNat_natCast]
  exact a.out.ix h' ik m (by omega)
theorem D_ld0 (a : Asm (BytesAt H v bs)) (g : Grow H h') (hi : 0 < bs.length) : loadA h' false n (sid v) (soff v) = some (.int .u8 (bs.getD 0 0)) := a.out.ld h' n g 0 hi
theorem D_ld (a : Asm (BytesAt H v bs)) (g : Grow H h') (hi : i < bs.length) : loadA h' false n (sid v) (soff v + i) = some (.int .u8 (bs.getD i 0)) := a.out.ld h' n g i hi
theorem D_str (a : Asm (BytesAt H v bs)) (g : Grow H h') : strS v h' = some (.str bs, h') := a.out.strR h' g
theorem get_asm {o : AObj} (a : Asm (H.get j = some o)) : H.get j = some o := a.out
theorem g_get (a : Asm (Grow h h')) (hj : j < h.next) : h'.get j = id (h.get j) := a.out.2 j hj
end
section
variable {α : Type} {esz : Nat} {h h' H : Heap} {v : AV} {l : List α} {enc : α → List AV} {i k n : Nat} {ik : IntKind}
theorem R_ln (a : Asm (Rd esz H v (l.map enc))) : lenS v h' = some (.int .i64 l.length, h') := a.out.lnT h'
theorem R_fl (a : Asm (Rd esz H v (l.map enc))) : v.flat = true := a.out.flat
theorem R_ixI {i : Int} (a : Asm (Rd esz H v (l.map enc))) (h0 : 0 ≤ i) (hi : i < l.length) : idxS esz v (.int ik i) h' = some (.ptr (sid v) (soff v + i.toNat * esz), h') := by
  obtain ⟨m, rfl⟩ := Int.eq_ofNat_of_zero_le h0
  rw [Int.toNat_natCast]
  exact a.out.ix h' ik m (by omega)
theorem R_ldz (a : Asm (Rd esz H v (l.map enc))) [Inhabited α] (g : Grow H h') (hi : 0 < l.length) : loadA h' true esz (sid v) (soff v) = some (.agg (enc (l.getD 0 default))) := by
  have := a.out.ld default h' g 0 hi
  rwa [Nat.zero_mul, Nat.add_zero] at this
theorem R_ldz0 (a : Asm (Rd esz H v (l.map enc))) [Inhabited α] (g : Grow H h') (hi : 0 < l.length) (hk : 0 < esz) : loadA h' false n (sid v) (soff v) = (enc (l.getD 0 default))[0]? := by
  have := a.out.ld0 default h' n g 0 hi hk
  rwa [Nat.zero_mul, Nat.add_zero] at this
theorem R_ld (a : Asm (Rd esz H v (l.map enc))) [Inhabited α] (g : Grow H h') (hi : i < l.length) : loadA h' true esz (sid v) (soff v + i * esz) = some (.agg (enc (l.getD i default))) := a.out.ld default h' g i hi
theorem R_ldk (a : Asm (Rd esz H v (l.map enc))) [Inhabited α] (g : Grow H h') (hi : i < l.length) (hk : k < esz) : loadA h' false n (sid v) (soff v + i * esz + k) = (enc (l.getD i default))[k]? := a.out.ldk default h' n g i k hi hk
theorem R_ld1 (a : Asm (Rd 1 H v (l.map enc))) [Inhabited α] (g : Grow H h') (hi : i < l.length) : loadA h' false n (sid v) (soff v + i) = (enc (l.getD i default))[0]? := by
  have := a.out.ld0 default h' n g i hi (by omega)
  rwa [Nat.mul_one] at this
theorem R_ld0 (a : Asm (Rd esz H v (l.map enc))) [Inhabited α] (g : Grow H h') (hi : i < l.length) (hk : 0 < esz) : loadA h' false n (sid v) (soff v + i * esz) = (enc (l.getD i default))[0]? := a.out.ld0 default h' n g i hi hk
end
/-! ### regions that draw: is what was read as it was? -/
def rdId : AV → Option Nat
  | .slice id .. => some id
  | _ => none
def chk1 : Option (Option Nat × Heap × Heap) → Option (Option Nat × Heap × Heap) → Bool
  | some (some id, _, _), some (_, h, h') => sameObj (h.get id) (h'.get id)
  | some (none, _, _), some _ => true
  | _, _ => false
section
variable {tm : List AV} {x : Opd} {lg : Log} {i q id off len cap esz : Nat} {ex : Bool} {rest : List (Nat × Nat)} {a b : Heap} {z : Option Nat × Heap × Heap} {r : Option Nat} {h h' H : Heap} {w : AV} {bs : List Int}
theorem rd_str : readsA tm (.bytesToStr x) = rdId (ev tm x) := by
  simp only [readsA]
  cases ev tm x <;> rfl
theorem rdId_sl : rdId (.slice id off len cap ex esz) = some id := rfl
theorem rdId_nil : rdId .nilsl = none := rfl
theorem chk_nil : chkLog lg [] = true := rfl
theorem chk_cons : chkLog lg ((i, q) :: rest) = (chk1 lg[i]? lg[q]? && chkLog lg rest) := by
  rw [chkLog]
  congr 1
theorem chk_n : chk1 (some (none, a, b)) (some z) = true := rfl
theorem chk_s : chk1 (some (some id, a, b)) (some (r, h, h')) = sameObj (h.get id) (h'.get id) := rfl
theorem chk_w (e : Asm (BytesAt H w bs)) (g : Grow H h) (g' : Grow H h') : chk1 (some (rdId w, a, b)) (some (r, h, h')) = true := by
  rcases e.out with ⟨rfl, _⟩ | ⟨id, off, cap, ex, c, ro, rfl, _, e2, _⟩
  · rfl
  · show sameObj (h.get id) (h'.get id) = true
    rw [g.get e2, g'.get e2]
    exact same_cells
end
end Go.Ya
namespace Go.Ya
set_option linter.unusedVariables false
set_option linter.unusedSimpArgs false
def own : AV → Nat
  | .slice id .. => id + 1
  | _ => 0
def OwC (esz n : Nat) (h : Heap) (sl : AV) (cs : List AV) : Prop :=
  (sl = .nilsl ∧ cs = []) ∨ ∃ b len cap ex rest, sl = .slice b 0 len cap ex esz ∧ n ≤ b ∧ h.get b = some (.cells (cs ++ rest) false) ∧ cs.length = len * esz ∧ (cs ++ rest).length = cap * esz ∧ len ≤ cap
def App (sl sl' : AV) (h h' : Heap) : Prop := h.next ≤ h'.next ∧ (∀ j, j < h.next → j + 1 ≠ own sl → h'.get j = h.get j) ∧ (own sl' = own sl ∨ h.next < own sl') ∧ own sl' ≤ h'.next
section
variable {esz n : Nat} {h h' : Heap} {sl sl' : AV} {cs : List AV}
theorem OwC.nil : OwC esz n h .nilsl [] := .inl ⟨rfl, rfl⟩
theorem OwC.num (o : OwC esz n h sl cs) : own sl = 0 ∨ (n < own sl ∧ own sl ≤ h.next) := by
  rcases o with ⟨rfl, _⟩ | ⟨b, len, cap, ex, rest, rfl, e1, e2, _⟩
  · exact .inl rfl
  · have := Heap.lt_of_get e2
    exact .inr ⟨by simp only [own]; omega, by simp only [own]; omega⟩
theorem OwC.keep (o : OwC esz n h sl cs) (hk : ∀ j, j < h.next → j + 1 = own sl → h'.get j = h.get j) : OwC esz n h' sl cs := by
  rcases o with e | ⟨b, len, cap, ex, rest, rfl, e1, e2, e3⟩
  · exact .inl e
  · exact .inr ⟨b, len, cap, ex, rest, rfl, e1, (hk b (Heap.lt_of_get e2) rfl).trans e2, e3⟩
theorem OwC.grow (o : OwC esz n h sl cs) (g : Grow h h') : OwC esz n h' sl cs := o.keep fun j hj _ => g.2 j hj
theorem OwC.le {m : Nat} (o : OwC esz n h sl cs) (hm : m ≤ n) : OwC esz m h sl cs := by
  rcases o with e | ⟨b, len, cap, ex, rest, rfl, e1, e2, e3⟩
  · exact .inl e
  · exact .inr ⟨b, len, cap, ex, rest, rfl, Nat.le_trans hm e1, e2, e3⟩
theorem OwC.fl (o : OwC esz n h sl cs) : sl.flat = true := by
  rcases o with ⟨rfl, _⟩ | ⟨b, len, cap, ex, rest, rfl, e1, e2, _⟩ <;> rfl
theorem App.get (a : App sl sl' h h') {j : Nat} (h1 : j < h.next) (h2 : j + 1 ≠ own sl) : h'.get j = h.get j := a.2.1 j h1 h2
theorem App.num (a : App sl sl' h h') : h.next ≤ h'.next ∧ (own sl' = own sl ∨ h.next < own sl') ∧ own sl' ≤ h'.next := ⟨a.1, a.2.2.1, a.2.2.2⟩
theorem App.grow {g : Heap} (a : App sl sl' h h') (gg : Grow g h) (h1 : own sl = 0 ∨ g.next < own sl) : Grow g h' :=
  ⟨Nat.le_trans gg.1 a.1, fun j hj => by
    have := gg.1
    rw [a.get (by omega) (by omega)]
    exact gg.2 j hj⟩
theorem OwC.app {bytes k : Nat} {y : AV} {new : List AV} (o : OwC esz n h sl cs) (hn : n ≤ h.next) (he : 0 < esz) (hl : lenA y = some k) (hf : firstA h esz k y = some new) (hk : new.length = k * esz) {m : Nat} (hm : cs.length = m * esz) (hz : (m + k) * bytes ≤ 140737488355328 ∧ m + k ≤ 140737488355328) :
    Runs (appendA h esz bytes sl y) fun sl' h' => OwC esz n h' sl' (cs ++ new) ∧ App sl sl' h h' := by
  rcases o with ⟨rfl, rfl⟩ | ⟨b, len, cap, ex, rest, rfl, e1, e2, e3, e4, e5⟩
  · have hm0 : m = 0 := by
      rcases Nat.eq_zero_or_pos m with e | e
      · exact e
      · have := Nat.mul_pos e he
        rw [← hm] at this; simp at this
    subst hm0
    by_cases k0 : k = 0
    · subst k0
      have : new = [] := List.eq_nil_of_length_eq_zero (by rw [hk, Nat.zero_mul])
      subst this
      exact ⟨.nilsl, h, by simp [appendA, hl, hf], .inl ⟨rfl, rfl⟩, Nat.le_refl _, fun _ _ _ => rfl, .inl rfl, Nat.zero_le _⟩
    · refine ⟨.slice h.next 0 k k false esz, (h.alloc (.cells new false)).note (decide (esz = 1 ∧ bytes = 1)) h.next, ?_, .inr ⟨h.next, k, k, false, [], rfl, hn, ?_, hk, ?_, Nat.le_refl _⟩, ?_, ?_, .inr ?_, ?_⟩
      · simp only [appendA, hl, hf]
        rw [if_neg k0, if_pos (by rw [Nat.zero_add] at hz; exact hz)]
      · exact (Grow.note _ _ _).get (by rw [Heap.get_alloc, if_pos rfl]; simp)
      · simpa using hk
      · exact ((Grow.alloc _ _).trans (Grow.note _ _ _)).1
      · exact fun j hj _ => ((Grow.alloc _ _).trans (Grow.note _ _ _)).2 j hj
      · simp only [own]; omega
      · exact (Grow.note (h.alloc _) _ _).1
  · have hb := Heap.lt_of_get e2
    have hml : len = m := Nat.eq_of_mul_eq_mul_right he (e3.symm.trans hm)
    subst hml
    by_cases hc : len + k ≤ cap
    · have hle : len * esz + k * esz ≤ cap * esz := by rw [← Nat.add_mul]; exact Nat.mul_le_mul_right _ hc
      have hst := store_of (vs := new) (off := len * esz) e2 (by rw [e4, hk]; exact hle)
      have hsp : splice (cs ++ rest) (len * esz) new = cs ++ new ++ rest.drop (k * esz) := by
        unfold splice
        rw [← e3, List.take_left, List.drop_append, List.drop_eq_nil_of_le (by omega), hk]
        simp
      rw [hsp] at hst
      refine ⟨.slice b 0 (len + k) cap ex esz, h.set b (.cells (cs ++ new ++ rest.drop (k * esz)) false), ?_, .inr ⟨b, len + k, cap, ex, rest.drop (k * esz), rfl, e1, ?_, ?_, ?_, hc⟩, Nat.le_of_eq rfl, ?_, .inl rfl, ?_⟩
      · simp only [appendA, hl, hf, if_true, hc, Nat.zero_add, hst]
      · rw [get_set, if_pos rfl, if_pos hb]
      · rw [List.length_append, e3, hk, Nat.add_mul]
      · rw [List.length_append, List.length_append, List.length_drop, hk, ← e4, List.length_append]
        rw [List.length_append] at e4
        omega
      · intro j _ hj
        rw [get_set, if_neg (by simp only [own] at hj; omega)]
      · simp only [own]; exact hb
    · have htk : ((cs ++ rest).drop 0).take (len * esz) = cs := by rw [List.drop_zero, ← e3, List.take_left]
      have hle : 0 + len * esz ≤ (cs ++ rest).length := by rw [List.length_append]; omega
      cases ex with
      | true =>
        refine ⟨.slice h.next 0 (len + k) (len + k) false esz, (h.alloc (.cells (cs ++ new) false)).note (decide (esz = 1 ∧ bytes = 1)) h.next, ?_, .inr ⟨h.next, len + k, len + k, false, [], rfl, hn, ?_, ?_, ?_, Nat.le_refl _⟩, ?_, ?_, .inr ?_, ?_⟩
        · simp only [appendA, hl, hf, if_true, hc, if_false, hz, and_self, e2, hle, htk]
        · exact (Grow.note _ _ _).get (by rw [Heap.get_alloc, if_pos rfl]; simp)
        · rw [List.length_append, e3, hk, Nat.add_mul]
        · rw [List.append_nil, List.length_append, e3, hk, Nat.add_mul]
        · exact ((Grow.alloc _ _).trans (Grow.note _ _ _)).1
        · exact fun j hj _ => ((Grow.alloc _ _).trans (Grow.note _ _ _)).2 j hj
        · simp only [own]; omega
        · exact (Grow.note (h.alloc _) _ _).1
      | false =>
        generalize hbt : (decide (esz = 1 ∧ bytes = 1) && h.byteAt b && decide ((cs ++ rest).length ≤ 0 + (len + k))) = bt
        refine ⟨.slice h.next 0 (len + k) (len + k) false esz, ((h.alloc (.cells (cs ++ new) false)).set b .dead).note bt h.next, ?_, .inr ⟨h.next, len + k, len + k, false, [], rfl, hn, ?_, ?_, ?_, Nat.le_refl _⟩, ?_, ?_, .inr ?_, ?_⟩
        · simp only [appendA, hl, hf, if_true, hc, if_false, hz, and_self, e2, hle, htk, Bool.false_eq_true, hbt]
        · refine (Grow.note _ _ _).get ?_
          rw [get_set, if_neg (by omega), Heap.get_alloc, if_pos rfl]; simp
        · rw [List.length_append, e3, hk, Nat.add_mul]
        · rw [List.append_nil, List.length_append, e3, hk, Nat.add_mul]
        · exact Nat.le_trans (Nat.le_succ _) (Grow.note ((h.alloc _).set b .dead) _ _).1
        · intro j hj hne
          rw [(Grow.note _ _ _).2 j (by show j < h.next + 1; omega), get_set, if_neg (by simp only [own] at hne; omega), Heap.get_alloc, if_neg (by omega)]
        · simp only [own]; omega
        · exact (Grow.note ((h.alloc _).set b .dead) _ _).1
end
/-! ### bytes -/
abbrev OwB (n : Nat) (h : Heap) (sl : AV) (bs : List Int) : Prop := OwC 1 n h sl (ints bs)
def Src (h : Heap) (y : AV) (ys : List Int) : Prop := lenA y = some ys.length ∧ firstA h 1 ys.length y = some (ints ys)
theorem BytesAt.src {h : Heap} {v : AV} {bs : List Int} (b : BytesAt h v bs) : Src h v bs := ⟨b.lenA, b.first⟩
theorem Src.str {h : Heap} {s : List Int} : Src h (.str s) s := ⟨rfl, by simp [firstA, ints]⟩
theorem ints_app (a b : List Int) : ints (a ++ b) = ints a ++ ints b := by simp [ints]
section
variable {n : Nat} {h h' : Heap} {sl y : AV} {bs ys : List Int}
theorem OwB.app (o : OwB n h sl bs) (hn : n ≤ h.next) (s : Src h y ys) (hz : bs.length + ys.length ≤ 140737488355328) :
    Runs (appendA h 1 1 sl y) fun sl' h' => OwB n h' sl' (bs ++ ys) ∧ App sl sl' h h' := by
  have := OwC.app (bytes := 1) o hn (by omega) s.1 s.2 (by simp) (m := bs.length) (by simp) (by omega)
  unfold OwB
  rw [ints_app]; exact this
theorem OwB.at (o : OwB n h sl bs) : BytesAt h sl bs := by
  rcases o with ⟨e1, e2⟩ | ⟨b, len, cap, ex, rest, e0, e1, e2, e3, e4, e5⟩
  · exact .inl ⟨e1, by simpa [ints] using e2⟩
  · have hl : len = bs.length := by simpa using e3.symm
    subst hl
    exact .inr ⟨b, 0, cap, ex, _, false, e0, e5, e2, by simp, by rw [List.drop_zero, ← ints_len bs, List.take_left]⟩
theorem NewBytes.own (hb : NewBytes h h' sl bs) {n : Nat} (hn : n ≤ h.next) : OwB n h' sl bs := by
  rcases hb with ⟨e, rfl⟩ | ⟨id, cap, ex, e, e1, e2, e3, e4, _⟩
  · exact .inl ⟨e, rfl⟩
  · exact .inr ⟨id, bs.length, cap, ex, [], e, by omega, by simpa using e4, by simp, by simp; omega, e1⟩
end
/-! ### rows -/
section
variable {α : Type} {esz n : Nat} {h h' : Heap} {sl y : AV} {l m : List α} {enc : α → List AV}
def OwR (esz : Nat) (enc : α → List AV) (n : Nat) (h : Heap) (sl : AV) (l : List α) : Prop := OwC esz n h sl (l.flatMap enc)
theorem enc_len (he : ∀ a, (enc a).length = esz) : ∀ l : List α, (l.flatMap enc).length = l.length * esz
  | [] => by simp
  | a :: l => by rw [List.flatMap_cons, List.length_append, he, enc_len he l, List.length_cons, Nat.succ_mul]; omega
theorem OwR.num (o : OwR esz enc n h sl l) : own sl = 0 ∨ (n < own sl ∧ own sl ≤ h.next) := OwC.num o
theorem OwR.grow (o : OwR esz enc n h sl l) (g : Grow h h') : OwR esz enc n h' sl l := OwC.grow o g
theorem OwR.keep (o : OwR esz enc n h sl l) (hk : ∀ j, j < h.next → j + 1 = own sl → h'.get j = h.get j) : OwR esz enc n h' sl l := OwC.keep o hk
theorem OwR.nil : OwR esz enc n h .nilsl [] := OwC.nil
theorem OwR.fl (o : OwR esz enc n h sl l) : sl.flat = true := OwC.fl o
theorem OwR.push {bytes : Nat} (he : ∀ a, (enc a).length = esz) (hp : 0 < esz) (o : OwR esz enc n h sl l) (hn : n ≤ h.next) {id cap : Nat} {ex ro : Bool} {a : α} {c : List AV} (hg : h.get id = some (.cells c ro)) (hc : c = enc a) (hz : (l.length + 1) * bytes ≤ 140737488355328 ∧ l.length + 1 ≤ 140737488355328) :
    Runs (appendA h esz bytes sl (.slice id 0 1 cap ex esz)) fun sl' h' => OwR esz enc n h' sl' (l ++ [a]) ∧ App sl sl' h h' := by
  subst hc
  have := OwC.app (bytes := bytes) o hn hp (y := .slice id 0 1 cap ex esz) (k := 1) rfl (new := enc a) (by simp [firstA, hg, ← he a]) (by rw [he, Nat.one_mul]) (m := l.length) (enc_len he l) hz
  unfold OwR
  rw [List.flatMap_append, List.flatMap_singleton]
  exact this
theorem OwR.rd (he : ∀ a, (enc a).length = esz) (hp : 0 < esz) (o : OwR esz enc n h sl l) : Rd esz h sl (l.map enc) := by
  refine ⟨fun r hr => by obtain ⟨a, _, rfl⟩ := List.mem_map.1 hr; exact he a, ?_⟩
  have hfl := enc_len he l
  rcases o with ⟨e1, e2⟩ | ⟨b, len, cap, ex, rest, e0, e1, e2, e3, e4, e5⟩
  · refine .inl ⟨e1, ?_⟩
    rcases Nat.eq_zero_or_pos l.length with e | e
    · rw [List.eq_nil_of_length_eq_zero e]; rfl
    · have := Nat.mul_pos e hp
      rw [← hfl, e2] at this; simp at this
  · have hl : len = l.length := Nat.eq_of_mul_eq_mul_right hp (e3.symm.trans hfl)
    subst hl
    refine .inr ⟨b, 0, cap, ex, _, false, by rw [List.length_map]; exact e0, e2, ?_, ?_⟩
    · rw [List.length_map, List.length_append, hfl]; omega
    · rw [List.length_map, List.drop_zero, ← hfl, List.take_left, List.flatMap_def]
end
section
variable {h h' H : Heap} {sl sl' : AV} {cs : List AV} {j n esz id off len cap : Nat} {ex : Bool}
theorem app_get (a : Asm (App sl sl' h h')) (h1 : j < h.next) (h2 : j + 1 ≠ own sl) : h'.get j = _root_.id (h.get j) := a.out.get h1 h2
theorem O_fl (a : Asm (OwC esz n H sl cs)) : sl.flat = true := a.out.fl
theorem O_cl (a : Asm (OwC esz n H sl cs)) : sl.cells = [sl] := cells_of a.out.fl
theorem OB_ln {bs : List Int} (a : Asm (OwB n H sl bs)) : lenS sl h' = some (.int .i64 bs.length, h') := a.out.at.ln h'
theorem own_sl : own (.slice id off len cap ex esz) = id + 1 := rfl
theorem own_nil : own .nilsl = 0 := rfl
end
def Pok (p : Nat) (h h' : Heap) : Prop := h.next ≤ h'.next ∧ ∀ j, j < h.next → j ≠ p → h'.get j = h.get j
section
variable {p : Nat} {h h' h2 g : Heap} {o : AObj} {j : Nat}
theorem Pok.grow (k : Pok p h h') (gg : Grow g h) (hp : g.next ≤ p) : Grow g h' :=
  ⟨Nat.le_trans gg.1 k.1, fun j hj => by
    have := gg.1
    rw [k.2 j (by omega) (by omega)]
    exact gg.2 j hj⟩
theorem Pok.refl (p : Nat) (h : Heap) : Pok p h h := ⟨Nat.le_refl _, fun _ _ _ => rfl⟩
theorem Pok.of (gg : Grow h h') : Pok p h h' := ⟨gg.1, fun j hj _ => gg.2 j hj⟩
theorem Pok.trans (a : Pok p h h') (b : Pok p h' h2) : Pok p h h2 := ⟨Nat.le_trans a.1 b.1, fun j hj hn => (b.2 j (Nat.lt_of_lt_of_le hj a.1) hn).trans (a.2 j hj hn)⟩
theorem Pok.set (hp : p < h.next) : Pok p h (h.set p o) := ⟨Nat.le_refl _, fun j _ hn => gs_old hn⟩
theorem Pok.setR (k : Pok p h h') {id : Nat} (hp : id = p ∨ h.next ≤ id) : Pok p h (h'.set id o) := ⟨k.1, fun j hj hn => by
  rw [gs_old (by omega)]; exact k.2 j hj hn⟩
theorem Pok.allocR (k : Pok p h h') : Pok p h (h'.alloc o) := k.trans (.of (Grow.alloc _ _))
theorem pok_get (a : Asm (Pok p h h')) (h1 : j < h.next) (h2 : j ≠ p) : h'.get j = _root_.id (h.get j) := a.out.2 j h1 h2
end
/-! ### the equations in one -/
theorem WB : type_of% (And.intro @w_seq (And.intro @w_block (And.intro @w_ops (And.intro @w_draw (And.intro @w_cond (And.intro @w_ct (And.intro @w_cf (And.intro @w_thenN (And.intro @w_thenR (And.intro @w_thenE (And.intro @w_blkN (And.intro @w_blkR (And.intro @w_blkE (And.intro @w_retR (And.intro @w_retN (And.intro @w_nil (And.intro @w_op (And.intro @w_guard (And.intro @w_gt (And.intro @w_gf (And.intro @w_gft (And.intro @w_gff (And.intro @w_some (And.intro @w_opsR (And.intro @w_lnil (And.intro @w_lop (And.intro @w_lguard (And.intro @w_ht (And.intro @w_hf (And.intro @w_hft (And.intro @w_hff (And.intro @w_lsome (And.intro @w_drawR (And.intro @w_pt (And.intro @w_pf (And.intro @lenS_nil (And.intro @lenS_sl (And.intro @idxS_sl (And.intro @b_gtrS (And.intro @b_leqS (And.intro @b_lssS (And.intro @idx_at (And.intro @min_nn (And.intro @max_nn (And.intro @lk_nil (And.intro @lk_cons (And.intro @mk_getI (And.intro @mk_setI (And.intro @note_false (And.intro @x_skip (And.intro @x_ret (And.intro @x_exit (And.intro @s_put (And.intro @s_put0 (And.intro @b_add (And.intro @b_sub (And.intro @b_mul (And.intro @b_eql (And.intro @b_neq (And.intro @b_lss (And.intro @b_leq (And.intro @b_gtr (And.intro @b_geq (And.intro @b_and (And.intro @b_or (And.intro @b_xor (And.intro @b_quo (And.intro @b_rem (And.intro @b_shl (And.intro @b_shr (And.intro @f_bool (And.intro @c_bool (And.intro @f_int (And.intro @c_int (And.intro @f_str (And.intro @c_str (And.intro @f_nilptr (And.intro @c_nilptr (And.intro @f_ptr (And.intro @c_ptr (And.intro @f_nilsl (And.intro @c_nilsl (And.intro @f_slice (And.intro @c_slice (And.intro @f_nilmap (And.intro @c_nilmap (And.intro @f_map (And.intro @c_map (And.intro @f_nilf (And.intro @c_nilf (And.intro @f_func (And.intro @c_func (And.intro @f_yieldf (And.intro @c_yieldf (And.intro @f_nilif (And.intro @c_nilif (And.intro @f_iface (And.intro @c_iface (And.intro @c_agg (And.intro @ga_new (And.intro @ga_old (And.intro @gs_new (And.intro @gs_old (And.intro @d_t (And.intro @d_f (And.intro @beq_t (And.intro @beq_f (And.intro @bne_t (And.intro @bne_f (And.intro @w_i64 (And.intro @w_u64 (And.intro @w_u32 (And.intro @w_i32 (And.intro @w_u8 (And.intro @n_sub1 (And.intro @n_add1 (And.intro @same_cells (And.intro @b_eqB (And.intro @b_neB (And.intro @b_eqS (And.intro @b_neS (And.intro @k_0 (And.intro @k_1 (And.intro @k_2 (And.intro @q_t (And.intro @q_f (And.intro @D_ln (And.intro @D_fl (And.intro @D_cl (And.intro @D_ixI (And.intro @D_str (And.intro @g_get (And.intro @app_get (And.intro @O_fl (And.intro @own_sl (And.intro @own_nil (And.intro @nx_alloc (And.intro @nx_set (And.intro @w_range (And.intro @w_rangeF (And.intro @w_rng (And.intro @w_rngR (And.intro @w_rngD (And.intro @w_yield (And.intro @w_yN (And.intro @w_yZ (And.intro @w_y1 (And.intro @w_yM (And.intro @w_y2 (And.intro @w_yQn (And.intro @w_yQr (And.intro @w_yQe (And.intro @z_nil (And.intro @z_cons (And.intro @rdOk_none (And.intro @rdOk_some (And.intro @rdO_loop (And.intro @w_gu (And.intro @w_hu (And.intro @bdi_n (And.intro @bdi_lh (And.intro @bdi_h (And.intro @bdi_l (And.intro @bdi_lhm (And.intro @bdi_hm (And.intro @cut_nil (And.intro @cut_sl (And.intro @cutB_some (And.intro @O_cl (And.intro @OB_ln (And.intro @pok_get (And.intro @b_addS (And.intro @rdId_sl (And.intro @rdId_nil (And.intro @chk_nil (And.intro @chk_cons (And.intro @chk_n (And.intro @chk_s (And.intro @chk_w (@get_asm)))))))))))))))))))))))))))))))))))))))))))))))))))))))))))))))))))))))))))))))))))))))))))))))))))))))))))))))))))))))))))))))))))))))))))))))))))))))))))))))))))))))))))))))))))) := And.intro @w_seq (And.intro @w_block (And.intro @w_ops (And.intro @w_draw (And.intro @w_cond (And.intro @w_ct (And.intro @w_cf (And.intro @w_thenN (And.intro @w_thenR (And.intro @w_thenE (And.intro @w_blkN (And.intro @w_blkR (And.intro @w_blkE (And.intro @w_retR (And.intro @w_retN (And.intro @w_nil (And.intro @w_op (And.intro @w_guard (And.intro @w_gt (And.intro @w_gf (And.intro @w_gft (And.intro @w_gff (And.intro @w_some (And.intro @w_opsR (And.intro @w_lnil (And.intro @w_lop (And.intro @w_lguard (And.intro @w_ht (And.intro @w_hf (And.intro @w_hft (And.intro @w_hff (And.intro @w_lsome (And.intro @w_drawR (And.intro @w_pt (And.intro @w_pf (And.intro @lenS_nil (And.intro @lenS_sl (And.intro @idxS_sl (And.intro @b_gtrS (And.intro @b_leqS (And.intro @b_lssS (And.intro @idx_at (And.intro @min_nn (And.intro @max_nn (And.intro @lk_nil (And.intro @lk_cons (And.intro @mk_getI (And.intro @mk_setI (And.intro @note_false (And.intro @x_skip (And.intro @x_ret (And.intro @x_exit (And.intro @s_put (And.intro @s_put0 (And.intro @b_add (And.intro @b_sub (And.intro @b_mul (And.intro @b_eql (And.intro @b_neq (And.intro @b_lss (And.intro @b_leq (And.intro @b_gtr (And.intro @b_geq (And.intro @b_and (And.intro @b_or (And.intro @b_xor (And.intro @b_quo (And.intro @b_rem (And.intro @b_shl (And.intro @b_shr (And.intro @f_bool (And.intro @c_bool (And.intro @f_int (And.intro @c_int (And.intro @f_str (And.intro @c_str (And.intro @f_nilptr (And.intro @c_nilptr (And.intro @f_ptr (And.intro @c_ptr (And.intro @f_nilsl (And.intro @c_nilsl (And.intro @f_slice (And.intro @c_slice (And.intro @f_nilmap (And.intro @c_nilmap (And.intro @f_map (And.intro @c_map (And.intro @f_nilf (And.intro @c_nilf (And.intro @f_func (And.intro @c_func (And.intro @f_yieldf (And.intro @c_yieldf (And.intro @f_nilif (And.intro @c_nilif (And.intro @f_iface (And.intro @c_iface (And.intro @c_agg (And.intro @ga_new (And.intro @ga_old (And.intro @gs_new (And.intro @gs_old (And.intro @d_t (And.intro @d_f (And.intro @beq_t (And.intro @beq_f (And.intro @bne_t (And.intro @bne_f (And.intro @w_i64 (And.intro @w_u64 (And.intro @w_u32 (And.intro @w_i32 (And.intro @w_u8 (And.intro @n_sub1 (And.intro @n_add1 (And.intro @same_cells (And.intro @b_eqB (And.intro @b_neB (And.intro @b_eqS (And.intro @b_neS (And.intro @k_0 (And.intro @k_1 (And.intro @k_2 (And.intro @q_t (And.intro @q_f (And.intro @D_ln (And.intro @D_fl (And.intro @D_cl (And.intro @D_ixI (And.intro @D_str (And.intro @g_get (And.intro @app_get (And.intro @O_fl (And.intro @own_sl (And.intro @own_nil (And.intro @nx_alloc (And.intro @nx_set (And.intro @w_range (And.intro @w_rangeF (And.intro @w_rng (And.intro @w_rngR (And.intro @w_rngD (And.intro @w_yield (And.intro @w_yN (And.intro @w_yZ (And.intro @w_y1 (And.intro @w_yM (And.intro @w_y2 (And.intro @w_yQn (And.intro @w_yQr (And.intro @w_yQe (And.intro @z_nil (And.intro @z_cons (And.intro @rdOk_none (And.intro @rdOk_some (And.intro @rdO_loop (And.intro @w_gu (And.intro @w_hu (And.intro @bdi_n (And.intro @bdi_lh (And.intro @bdi_h (And.intro @bdi_l (And.intro @bdi_lhm (And.intro @bdi_hm (And.intro @cut_nil (And.intro @cut_sl (And.intro @cutB_some (And.intro @O_cl (And.intro @OB_ln (And.intro @pok_get (And.intro @b_addS (And.intro @rdId_sl (And.intro @rdId_nil (And.intro @chk_nil (And.intro @chk_cons (And.intro @chk_n (And.intro @chk_s (And.intro @chk_w (@get_asm)))))))))))))))))))))))))))))))))))))))))))))))))))))))))))))))))))))))))))))))))))))))))))))))))))))))))))))))))))))))))))))))))))))))))))))))))))))))))))))))))))))))))))))))))))
theorem WP : type_of% (And.intro @w_pick (And.intro @w_len (And.intro @w_idx (And.intro @w_cut (And.intro @w_str (And.intro @w_app (@rd_str))))))) := And.intro @w_pick (And.intro @w_len (And.intro @w_idx (And.intro @w_cut (And.intro @w_str (And.intro @w_app (@rd_str))))))
theorem WL : type_of% (And.intro @D_ld (And.intro @R_ld (And.intro @R_ldk (And.intro @R_ld1 (And.intro @R_ld0 (And.intro @D_ld0 (And.intro @R_ldz (@R_ldz0)))))))) := And.intro @D_ld (And.intro @R_ld (And.intro @R_ldk (And.intro @R_ld1 (And.intro @R_ld0 (And.intro @D_ld0 (And.intro @R_ldz (@R_ldz0)))))))
theorem WR : type_of% (And.intro @R_ln (And.intro @R_fl (@R_ixI))) := And.intro @R_ln (And.intro @R_fl (@R_ixI))
end Go.Ya
