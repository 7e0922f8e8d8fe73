/-
  An argument that the reader can read, as the abstract machine has it.
-/
import Derived.OpenShut
import Derived.DataReads
import Derived.Test.YtekbgdmemenheaaYaRow
namespace Go.Ya
set_option linter.unusedVariables false
set_option linter.unusedSimpArgs false

theorem bulk_pos {H : Type} : ∀ d : DataW H, 1 ≤ bulk d
  | .lit (.string _) => by simp [bulk]
  | .lit (.bool _) => by simp [bulk]
  | .lit (.int ..) => by simp [bulk]
  | .lit (.float ..) => by simp [bulk]
  | .lit .nil => by simp [bulk]
  | .nil => by simp [bulk]
  | .ptr _ => by simp [bulk]
  | .slice .. => by simp [bulk]
  | .agg _ => by simp [bulk]
  | .iface .. => by simp [bulk]
  | .map _ => by simp [bulk]
  | .held _ => by simp [bulk]
theorem bulks_len {H : Type} : ∀ ds : List (DataW H), ds.length ≤ bulks ds
  | [] => by simp [bulks]
  | d :: r => by have := bulk_pos d; have := bulks_len r; simp [bulks]; omega
theorem bulks_mem {H : Type} : ∀ {ds : List (DataW H)} {d : DataW H}, d ∈ ds → bulk d ≤ bulks ds
  | a :: r, d, h => by
    rcases List.mem_cons.1 h with h | h
    · subst h; simp [bulks]
    · have := bulks_mem h; simp [bulks]; omega

theorem flat_idx {α : Type} {m : Nat} : ∀ (ls : List (List α)), (∀ l ∈ ls, l.length = m) → ∀ i r, r < m → ls.flatten[i * m + r]? = (ls[i]?).bind (·[r]?)
  | [], _, i, r, _ => by simp
  | x :: ls, h, 0, r, hr => by
    have hx := h x List.mem_cons_self
    rw [List.flatten_cons, List.getElem?_append_left (by omega)]
    simp
  | x :: ls, h, i + 1, r, hr => by
    have hx := h x List.mem_cons_self
    have ih := flat_idx ls (fun l hl => h l (List.mem_cons_of_mem _ hl)) i r hr
    rw [List.flatten_cons, List.getElem?_append_right (by rw [hx, Nat.add_mul]; omega)]
    have : (i + 1) * m + r - x.length = i * m + r := by rw [hx, Nat.add_mul]; omega
    rw [this, ih]
    simp

theorem tile_le (P : Program) : ∀ (fs : List Field) (off n : Nat), tiles P off fs = some n → off ≤ n ∧ ∀ f ∈ fs, f.offset + P.cellsOf f.type ≤ n
  | [], off, n, h => by simp [tiles] at h; subst h; simp
  | g :: fs, off, n, h => by
    simp only [tiles] at h
    split at h
    · rename_i ho
      obtain ⟨h1, h2⟩ := tile_le P fs _ n h
      refine ⟨by omega, fun f hf => ?_⟩
      rcases List.mem_cons.1 hf with e | e
      · subst e; omega
      · exact h2 f e
    · cases h

section
variable {H : Type} {enc : TypeId × Value → H} {P : Program} {N : Nat} {w : World}

theorem St.taken {μ : Mu} {h : Heap} (s : St P μ h w) (no : NoOwn μ h) {b base lim : Nat} {c : List AV} (ho : ObjR P (muAdd μ h.next (b, base, lim)) (.cells c true) b base lim w) :
    Le μ (muAdd μ h.next (b, base, lim)) ∧ St P (muAdd μ h.next (b, base, lim)) (h.alloc (.cells c true)) w ∧ NoOwn (muAdd μ h.next (b, base, lim)) (h.alloc (.cells c true)) := by
  have hμ := s.bd h.next (Nat.le_refl _)
  have hle : Le μ (muAdd μ h.next (b, base, lim)) := .add hμ
  have no' : NoOwn (muAdd μ h.next (b, base, lim)) (h.alloc (.cells c true)) := by
    rintro b1 ⟨id, base1, lim1, o, e1, e2, e3⟩
    rw [Heap.get_alloc] at e2
    by_cases hid : id = h.next
    · rw [if_pos hid] at e2; cases e2; simp [AObj.owned] at e3
    · rw [if_neg hid] at e2
      rw [muAdd_ne _ _ _ _ hid] at e1
      exact no b1 ⟨id, base1, lim1, o, e1, e2, e3⟩
  refine ⟨hle, ⟨⟨fun id b1 base1 lim1 o e1 e2 => ?_, fun id id' b1 base1 lim1 b2 base2 lim2 o o' _ e1 _ e3 _ e5 _ => absurd ⟨id, base1, lim1, o, e1, e3, e5⟩ (no' b1)⟩, fun id hid => ?_, s.mkd.same (fun id e => by
      have e1 := Heap.byteAt_alloc rfl e
      have := Heap.byteAt_lt e1
      exact ⟨e1, muAdd_ne _ _ _ _ (by omega), by rw [Heap.get_alloc, if_neg (by omega)]⟩) fun _ _ _ _ _ _ _ _ _ => rfl⟩, no'⟩
  · rw [Heap.get_alloc] at e2
    by_cases hid : id = h.next
    · rw [if_pos hid] at e2; cases e2
      subst hid
      rw [muAdd_same] at e1; cases e1
      exact ho
    · rw [if_neg hid] at e2
      rw [muAdd_ne _ _ _ _ hid] at e1
      exact (s.r.obj id b1 base1 lim1 o e1 e2).of_same hle rfl
  · have : h.next + 1 ≤ id := by simpa using hid
    rw [muAdd_ne _ _ _ _ (by omega)]
    exact s.bd id (by omega)

theorem St.taken0 {μ : Mu} {h : Heap} (s : St P μ h w) (no : NoOwn μ h) (c : List AV) : St P μ (h.alloc (.cells c true)) w ∧ NoOwn μ (h.alloc (.cells c true)) := by
  have hμ := s.bd h.next (Nat.le_refl _)
  have no' : NoOwn μ (h.alloc (.cells c true)) := by
    rintro b1 ⟨id, base1, lim1, o, e1, e2, e3⟩
    rw [Heap.get_alloc] at e2
    by_cases hid : id = h.next
    · rw [if_pos hid] at e2; cases e2; simp [AObj.owned] at e3
    · rw [if_neg hid] at e2
      exact no b1 ⟨id, base1, lim1, o, e1, e2, e3⟩
  refine ⟨⟨⟨fun id b1 base1 lim1 o e1 e2 => ?_, fun id id' b1 base1 lim1 b2 base2 lim2 o o' _ e1 _ e3 _ e5 _ => absurd ⟨id, base1, lim1, o, e1, e3, e5⟩ (no' b1)⟩, fun id hid => ?_, s.mkd.same (fun id e => by
      have e1 := Heap.byteAt_alloc rfl e
      have := Heap.byteAt_lt e1
      exact ⟨e1, rfl, by rw [Heap.get_alloc, if_neg (by omega)]⟩) fun _ _ _ _ _ _ _ _ _ => rfl⟩, no'⟩
  · rw [Heap.get_alloc] at e2
    by_cases hid : id = h.next
    · subst hid; rw [hμ] at e1; cases e1
    · rw [if_neg hid] at e2
      exact s.r.obj id b1 base1 lim1 o e1 e2
  · have : h.next + 1 ≤ id := by simpa using hid
    exact s.bd id (by omega)

theorem add_none (b o n : Nat) : (⟨b, o, none⟩ : Addr).add n = ⟨b, o + n, none⟩ := by
  unfold Addr.add; split
  · subst_vars; rfl
  · rfl
theorem add_zero' (a : Addr) : a.add 0 = a := by simp [Addr.add]

theorem map_fst_const {α β : Type} (e : α) : ∀ l : List β, l.map (((·.1) : α × β → α) ∘ fun c => (e, c)) = List.replicate l.length e
  | [] => rfl
  | a :: l => by rw [List.map_cons, map_fst_const e l]; rfl

/-- What a reading gives. -/
def Took (P : Program) (N : Nat) (w : World) (k : Nat) (t : TypeId) (cs : List Value) (μ : Mu) (h : Heap) : Prop :=
  ∃ μ' h' acs, Le μ μ' ∧ Ext h h' ∧ St P μ' h' w ∧ NoOwn μ' h' ∧ Vs μ' acs cs ∧ acs.all AV.flat = true ∧ isT P N h' k t acs ∧ cellsX P N k t h acs h'

theorem take_list (k : Nat) : ∀ (ts : List (TypeId × List Value)), (∀ x ∈ ts, ∀ μ h, St P μ h w → NoOwn μ h → Took P N w k x.1 x.2 μ h) → ∀ μ h, St P μ h w → NoOwn μ h →
    ∃ (μ' : Mu) (h' : Heap) (ass : List (List AV)), Le μ μ' ∧ Ext h h' ∧ St P μ' h' w ∧ NoOwn μ' h' ∧ ass.length = ts.length ∧ listX (cellsX P N k) (ts.map (·.1)) h ass h' ∧
      ∀ (i : Nat) x (a : List AV), ts[i]? = some x → ass[i]? = some a → Vs μ' a x.2 ∧ a.all AV.flat = true ∧ isT P N h' k x.1 a
  | [], _, μ, h, s, no => ⟨μ, h, [], .refl _, .refl _, s, no, rfl, rfl, fun i x a e => by simp at e⟩
  | x :: ts, hx, μ, h, s, no => by
    obtain ⟨μ1, h1, a1, l1, x1, s1, n1, v1, f1, t1, c1⟩ := hx x List.mem_cons_self μ h s no
    obtain ⟨μ2, h2, as, l2, x2, s2, n2, e2, c2, r2⟩ := take_list k ts (fun y hy => hx y (List.mem_cons_of_mem _ hy)) μ1 h1 s1 n1
    refine ⟨μ2, h2, a1 :: as, l1.trans l2, x1.trans x2, s2, n2, by simp [e2], ⟨h1, c1, c2⟩, fun i y a ei ea => ?_⟩
    cases i with
    | zero => simp at ei ea; subst ei; subst ea; exact ⟨v1.mono l2, f1, t1.ext x2⟩
    | succ i => exact r2 i y a (by simpa using ei) (by simpa using ea)

theorem all_flatten {ass : List (List AV)} (h : ∀ (i : Nat) (a : List AV), ass[i]? = some a → a.all AV.flat = true) : ass.flatten.all AV.flat = true := by
  rw [List.all_eq_true]
  intro x hx
  obtain ⟨l, hl, hxl⟩ := List.mem_flatten.1 hx
  obtain ⟨i, hi⟩ := List.mem_iff_getElem?.1 hl
  exact List.all_eq_true.1 (h i l hi) x hxl

set_option maxHeartbeats 1000000 in
theorem take_cells : ∀ (k : Nat) (t : TypeId) (cs : List Value) (fuel : Nat) (x : DataW H × List MemPlace), DataW.trod enc P w 0 (fun _ => true) true fuel t cs = some x → inTy P k t = true → bulk x.1 ≤ N →
    ∀ μ h, St P μ h w → NoOwn μ h → Took P N w k t cs μ h
  | 0, _, _, _, _, _, hi, _, _, _, _, _ => by simp [inTy] at hi
  | k + 1, t, cs, fuel, x, hx, hi, hb, μ, h, s, no => by
    cases hu : P.underlying t with
    | none => simp [inTy, hu] at hi
    | some d =>
      cases d <;> try (simp [inTy, hu] at hi; done)
      case bool =>
        obtain ⟨b, rfl, rfl⟩ := DataW.trod_bool hu hx
        exact ⟨μ, h, [.bool b], .refl _, .refl _, s, no, .cons _ _ _ _ (.bool b) .nil, rfl, by unfold isT; rw [hu]; exact ⟨b, rfl⟩, by unfold cellsX; rw [hu]; exact ⟨⟨b, rfl⟩, rfl⟩⟩
      case int kd =>
        obtain ⟨n, rfl, rfl, hw⟩ := DataW.trod_int hu hx
        exact ⟨μ, h, [.int kd n], .refl _, .refl _, s, no, .cons _ _ _ _ (.int kd n hw) .nil, rfl, by unfold isT; rw [hu]; exact ⟨n, rfl, hw⟩, by unfold cellsX; rw [hu]; exact ⟨⟨n, rfl, hw⟩, rfl⟩⟩
      case string =>
        obtain ⟨ba, rfl, rfl, hs⟩ := DataW.trod_string hu hx
        have hbl : (bytesOf ba).length ≤ N := by
          simp [bulk] at hb
          simp [bytesOf]; omega
        refine ⟨μ, h, [.str (bytesOf ba)], .refl _, .refl _, s, no, .cons _ _ _ _ (.str _ ba rfl hs) .nil, rfl, ?_, ?_⟩
        · unfold isT; rw [hu]
          exact ⟨_, rfl, bytesOf_wf ba, hbl⟩
        · unfold cellsX; rw [hu]
          exact ⟨⟨_, rfl, bytesOf_wf ba, hbl⟩, rfl⟩
      case slice e =>
        have hi' : P.cellsOf t = 1 ∧ 0 < P.cellsOf e ∧ inTy P k e = true := by simpa [inTy, hu, and_assoc] using hi
        obtain ⟨_, hpos, hin⟩ := hi'
        rcases DataW.trod_slice hu hx with ⟨rfl, rfl⟩ | ⟨a, len, cap, elems, rest, n, rfl, rfl, rfl, hba, hlc, hcm, hel, hget, hsp, _⟩
        · exact ⟨μ, h, [.nilsl], .refl _, .refl _, s, no, .cons _ _ _ _ .nilsl .nil, rfl, by unfold isT; rw [hu]; exact .inl rfl, by unfold cellsX; rw [hu]; exact .inl ⟨rfl, rfl⟩⟩
        · obtain ⟨hrl, hrest⟩ := hsp rfl
          simp only [bulk] at hb
          have hlenN : len ≤ N := by have := bulks_len (elems.map (·.1)); simp at this; omega
          -- the elements
          have hel' : ∀ i, i < len → ∃ ci y, w.cells? 0 (a.add (i * P.cellsOf e)) (P.cellsOf e) = some ci ∧ DataW.trod enc P w 0 (fun _ => true) true n e ci = some y ∧ y ∈ elems := by
            intro i hi
            have := hget i hi
            rw [List.getElem?_eq_getElem (by omega)] at this
            obtain ⟨ci, h1, h2⟩ := Option.bind_eq_some_iff.1 this
            exact ⟨ci, _, h1, h2, List.getElem_mem _⟩
          let css : List (List Value) := (List.range len).map fun i => (w.cells? 0 (a.add (i * P.cellsOf e)) (P.cellsOf e)).getD []
          have hcss : ∀ i, i < len → ∃ ci, css[i]? = some ci ∧ w.cells? 0 (a.add (i * P.cellsOf e)) (P.cellsOf e) = some ci := by
            intro i hi
            obtain ⟨ci, _, h1, _⟩ := hel' i hi
            refine ⟨ci, ?_, h1⟩
            show ((List.range len).map _)[i]? = _
            rw [List.getElem?_map, List.getElem?_range hi]
            simp [h1]
          have hcl : css.length = len := by simp [css]
          obtain ⟨μ1, h1, ass, l1, x1, s1, n1, e1, c1, r1⟩ := take_list (P := P) (N := N) (w := w) k (css.map fun c => (e, c)) (by
            intro y hy μ2 h2 s2 n2
            obtain ⟨ci, hci, rfl⟩ := List.mem_map.1 hy
            obtain ⟨i, hi⟩ := List.mem_iff_getElem?.1 hci
            have hil : i < len := by rw [← hcl]; exact (List.getElem?_eq_some_iff.1 hi).1
            obtain ⟨ci', y', g1, g2, g3⟩ := hel' i hil
            obtain ⟨ci'', g4, g5⟩ := hcss i hil
            rw [g5] at g1; cases g1
            rw [g4] at hi; cases hi
            have := bulks_mem (List.mem_map_of_mem (f := (·.1)) g3)
            exact take_cells k e _ n y' g2 hin (by omega) μ2 h2 s2 n2) μ h s no
          have hal : ass.length = len := by simpa [hcl] using e1
          have hr : ∀ (i : Nat) (a' : List AV), ass[i]? = some a' → ∃ ci, css[i]? = some ci ∧ w.cells? 0 (a.add (i * P.cellsOf e)) (P.cellsOf e) = some ci ∧ Vs μ1 a' ci ∧ a'.all AV.flat = true ∧ isT P N h1 k e a' := by
            intro i a' ha
            have hil : i < len := by rw [← hal]; exact (List.getElem?_eq_some_iff.1 ha).1
            obtain ⟨ci, g1, g2⟩ := hcss i hil
            obtain ⟨g3, g4, g5⟩ := r1 i (e, ci) a' (by rw [List.getElem?_map, g1]; rfl) ha
            exact ⟨ci, g1, g2, g3, g4, g5⟩
          have ham : ∀ l ∈ ass, l.length = P.cellsOf e := by
            intro l hl
            obtain ⟨i, hi⟩ := List.mem_iff_getElem?.1 hl
            obtain ⟨ci, _, g2, g3, _⟩ := hr i l hi
            rw [g3.len]; exact (World.cells?_some g2).2.1
          obtain ⟨hfl, hfs⟩ := flat_len ass ham
          have hflat : ass.flatten.all AV.flat = true := all_flatten fun i a' ha => let ⟨_, _, _, _, g, _⟩ := hr i a' ha; g
          have hat : ∀ h', Ext h1 h' → ∀ i, i < len → isT P N h' k e ((ass.flatten.drop (i * P.cellsOf e)).take (P.cellsOf e)) := by
            intro h' hx' i hil
            have hia : ass[i]? = some ass[i] := List.getElem?_eq_getElem (by omega)
            have := flat_chunk ass i _ hia
            rw [hfs i (by omega), ham _ (List.getElem_mem _)] at this
            rw [this]
            obtain ⟨_, _, _, _, _, g⟩ := hr i _ hia
            exact g.ext hx'
          have hcx : listX (cellsX P N k) (List.replicate len e) h ass h1 := by
            have e0 : (css.map fun c => (e, c)).map (·.1) = List.replicate len e := by
              rw [List.map_map, ← hcl]
              exact map_fst_const e css
            rw [← e0]; exact c1
          rcases Nat.eq_zero_or_pos cap with hc0 | hc0
          · obtain ⟨s2, n2⟩ := s1.taken0 n1 ass.flatten
            refine ⟨μ1, _, [.slice h1.next 0 len len false (P.cellsOf e)], l1, x1.trans (.alloc _ _), s2, n2, .cons _ _ _ _ (.slice _ _ _ _ _ _ a cap (Nat.le_refl _) hlc (by simp) hpos hcm (.inl hc0)) .nil, rfl, ?_, ?_⟩
            · unfold isT; rw [hu]
              exact .inr ⟨_, len, ass.flatten, rfl, by rw [Heap.get_alloc]; simp, by rw [hfl, hal], hlenN, hat _ (.alloc _ _)⟩
            · unfold cellsX; rw [hu]
              exact .inr ⟨len, ass, h1, hcx, hlenN, by rw [hfl, hal], rfl, rfl⟩
          · -- the last cell of all
            have hall : ∀ i, i < cap → ∃ ci, w.cells? 0 (a.add (i * P.cellsOf e)) (P.cellsOf e) = some ci := by
              intro i hic
              rcases Nat.lt_or_ge i len with hlt | hge
              · obtain ⟨ci, _, g, _⟩ := hel' _ hlt; exact ⟨ci, g⟩
              · have := hrest (i - len) (by omega)
                rw [List.getElem?_eq_getElem (by omega)] at this
                obtain ⟨ci, g, _⟩ := Option.bind_eq_some_iff.1 this
                have e : len + (i - len) = i := by omega
                rw [e] at g
                exact ⟨ci, g⟩
            obtain ⟨c0, hc0'⟩ := hall 0 hc0
            obtain ⟨_, hc0l, hcc0⟩ := World.cells?_some hc0'
            have h00 := hcc0 0 hpos
            rw [List.getElem?_eq_getElem (by omega), Nat.zero_mul, add_zero', add_zero'] at h00
            have hasp := World.cell?_spot h00
            obtain ⟨ab, ao, asp⟩ := a
            simp only at hasp
            subst hasp
            obtain ⟨ci, hci⟩ := hall (cap - 1) (by omega)
            obtain ⟨_, hcil, hcc⟩ := World.cells?_some hci
            have hlc' := hcc (P.cellsOf e - 1) (by omega)
            rw [List.getElem?_eq_getElem (by omega), add_none, add_none] at hlc'
            obtain ⟨arr, ty, fr, hbk, hsz⟩ : ∃ arr ty fr, w.heap[ab]? = some (.cells arr ty fr) ∧ ao + cap * P.cellsOf e ≤ arr.size := by
              unfold World.cell? at hlc'
              simp only at hlc'
              split at hlc'
              · rename_i c2 t2 f2 hb2
                refine ⟨c2, t2, f2, hb2, ?_⟩
                simp only [Option.isSome_none, Bool.false_eq_true, if_false] at hlc'
                have hlt := (Array.getElem?_eq_some_iff.1 hlc').1
                have : (cap - 1) * P.cellsOf e + P.cellsOf e = cap * P.cellsOf e := by
                  rw [← Nat.succ_mul]; congr 1; omega
                omega
              · cases hlc'
            have hcell : ∀ j : Nat, w.cell? ⟨ab, ao + j, none⟩ = arr[ao + j]? := by
              intro j; simp [World.cell?, hbk]
            have hobj : ObjR P (muAdd μ1 h1.next (ab, ao, ao + cap * P.cellsOf e)) (.cells ass.flatten true) ab ao (ao + cap * P.cellsOf e) w := by
              refine ⟨arr, ty, fr, hbk, hsz, ?_, ?_, by simp⟩
              · rw [hfl, hal]; exact Nat.add_le_add_left (Nat.mul_le_mul_right _ hlc) _
              · intro j aj haj
                have hjl := (List.getElem?_eq_some_iff.1 haj).1
                have hdm : (j / P.cellsOf e) * P.cellsOf e + j % P.cellsOf e = j := by rw [Nat.mul_comm]; exact Nat.div_add_mod _ _
                have hrm : j % P.cellsOf e < P.cellsOf e := Nat.mod_lt _ hpos
                have := flat_idx ass ham (j / P.cellsOf e) (j % P.cellsOf e) hrm
                rw [hdm, haj] at this
                obtain ⟨a', ha', haj'⟩ := Option.bind_eq_some_iff.1 this.symm
                obtain ⟨ci, _, g2, g3, g4, _⟩ := hr _ _ ha'
                obtain ⟨v, hv1, hv2⟩ := g3.get haj'
                obtain ⟨_, _, hcc2⟩ := World.cells?_some g2
                have := hcc2 _ hrm
                rw [add_none, add_none, Nat.add_assoc, hdm, hcell] at this
                exact ⟨v, this.trans hv1, hv2.mono (.add (s1.bd _ (Nat.le_refl _))), List.all_eq_true.1 g4 _ (List.mem_of_getElem? haj')⟩
            obtain ⟨l2, s2, n2⟩ := s1.taken n1 hobj
            refine ⟨_, _, [.slice h1.next 0 len len false (P.cellsOf e)], l1.trans l2, x1.trans (.alloc _ _), s2, n2,
              .cons _ _ _ _ (.slice _ _ _ _ _ _ ⟨ab, ao, none⟩ cap (Nat.le_refl _) hlc (by simp) hpos hcm (.inr ⟨ab, ao, _, muAdd_same _ _ _, by simp, by simp⟩)) .nil, rfl, ?_, ?_⟩
            · unfold isT; rw [hu]
              exact .inr ⟨_, len, ass.flatten, rfl, by rw [Heap.get_alloc]; simp, by rw [hfl, hal], hlenN, hat _ (.alloc _ _)⟩
            · unfold cellsX; rw [hu]
              exact .inr ⟨len, ass, h1, hcx, hlenN, by rw [hfl, hal], rfl, rfl⟩
      case array m e =>
        have hi' : P.cellsOf t = m * P.cellsOf e ∧ inTy P k e = true := by simpa [inTy, hu] using hi
        obtain ⟨hct, hin⟩ := hi'
        obtain ⟨xs, n, rfl, rfl, hl, hxl, hget⟩ := DataW.trod_array hu hx
        simp only [bulk] at hb
        obtain ⟨μ1, h1, ass, l1, x1, s1, n1, e1, c1, r1⟩ := take_list (P := P) (N := N) (w := w) k ((List.range m).map fun i => (e, (cs.drop (i * P.cellsOf e)).take (P.cellsOf e))) (by
          intro y hy μ2 h2 s2 n2
          obtain ⟨i, hi, rfl⟩ := List.mem_map.1 hy
          have hil : i < m := by simpa using hi
          have := hget i hil
          rw [List.getElem?_eq_getElem (by omega)] at this
          have hm := bulks_mem (List.mem_map_of_mem (f := (·.1)) (List.getElem_mem (l := xs) (n := i) (by omega)))
          exact take_cells k e _ n _ this hin (by omega) μ2 h2 s2 n2) μ h s no
        have hal : ass.length = m := by simpa using e1
        have hr : ∀ (i : Nat) (a' : List AV), ass[i]? = some a' → Vs μ1 a' ((cs.drop (i * P.cellsOf e)).take (P.cellsOf e)) ∧ a'.all AV.flat = true ∧ isT P N h1 k e a' := by
          intro i a' ha
          have hil : i < m := by rw [← hal]; exact (List.getElem?_eq_some_iff.1 ha).1
          exact r1 i _ a' (by rw [List.getElem?_map, List.getElem?_range hil]; rfl) ha
        have hvs : Vs μ1 ass.flatten cs := by
          have := vs_flat (μ := μ1) (ass := ass) (vss := (List.range m).map fun i => (cs.drop (i * P.cellsOf e)).take (P.cellsOf e)) (by simp [hal]) (by
            intro i a' v ha hv
            have hil : i < m := by rw [← hal]; exact (List.getElem?_eq_some_iff.1 ha).1
            rw [List.getElem?_map, List.getElem?_range hil] at hv
            cases hv
            exact (hr i a' ha).1)
          rwa [cut_flat (P.cellsOf e) m cs (by omega)] at this
        have ham : ∀ l ∈ ass, l.length = P.cellsOf e := by
          intro l hl'
          obtain ⟨i, hi⟩ := List.mem_iff_getElem?.1 hl'
          have hil : i < m := by rw [← hal]; exact (List.getElem?_eq_some_iff.1 hi).1
          rw [(hr i l hi).1.len, List.length_take, List.length_drop, hl, hct]
          have : i * P.cellsOf e + P.cellsOf e ≤ m * P.cellsOf e := by rw [← Nat.succ_mul]; exact Nat.mul_le_mul_right _ hil
          omega
        obtain ⟨hfl, hfs⟩ := flat_len ass ham
        refine ⟨μ1, h1, ass.flatten, l1, x1, s1, n1, hvs, all_flatten fun i a' ha => (hr i a' ha).2.1, ?_, by
          unfold cellsX; rw [hu]
          refine ⟨ass, ?_, rfl⟩
          have e0 : ((List.range m).map fun i => (e, (cs.drop (i * P.cellsOf e)).take (P.cellsOf e))).map (·.1) = List.replicate m e := by
            rw [List.map_map]
            apply List.ext_getElem?
            intro j
            rw [List.getElem?_map, List.getElem?_replicate]
            rcases Nat.lt_or_ge j m with hj | hj
            · rw [List.getElem?_range hj, if_pos hj]; rfl
            · rw [List.getElem?_eq_none (by simpa using hj), if_neg (by omega)]; rfl
          rw [← e0]; exact c1⟩
        unfold isT; rw [hu]
        refine ⟨by rw [hvs.len, hl], fun i hil => ?_⟩
        have hia : ass[i]? = some ass[i] := List.getElem?_eq_getElem (by omega)
        have := flat_chunk ass i _ hia
        rw [hfs i (by omega), ham _ (List.getElem_mem _)] at this
        rw [this]
        exact (hr i _ hia).2.2
      case struct fs =>
        have hi' : tiles P 0 fs.toList = some (P.cellsOf t) ∧ ∀ f ∈ fs.toList, inTy P k f.type = true := by
          simp only [inTy, hu, Bool.and_eq_true, beq_iff_eq, List.all_eq_true] at hi
          exact hi
        obtain ⟨hct, hin⟩ := hi'
        obtain ⟨xs, n, rfl, rfl, hl, hxl, hget⟩ := DataW.trod_struct hu hx
        simp only [bulk] at hb
        obtain ⟨μ1, h1, ass, l1, x1, s1, n1, e1, c1, r1⟩ := take_list (P := P) (N := N) (w := w) k (fs.toList.map fun f => (f.type, (cs.drop f.offset).take (P.cellsOf f.type))) (by
          intro y hy μ2 h2 s2 n2
          obtain ⟨f, hf, rfl⟩ := List.mem_map.1 hy
          obtain ⟨i, hi⟩ := List.mem_iff_getElem?.1 hf
          have hil : i < fs.toList.length := (List.getElem?_eq_some_iff.1 hi).1
          have := hget i f (by simpa using hi)
          rw [List.getElem?_eq_getElem (by simp at hil; omega)] at this
          have hm := bulks_mem (List.mem_map_of_mem (f := (·.1)) (List.getElem_mem (l := xs) (n := i) (by simp at hil; omega)))
          exact take_cells k f.type _ n _ this (hin f hf) (by omega) μ2 h2 s2 n2) μ h s no
        have hal : ass.length = fs.toList.length := by simpa using e1
        have hr : ∀ (i : Nat) (a' : List AV) (f : Field), ass[i]? = some a' → fs.toList[i]? = some f → Vs μ1 a' ((cs.drop f.offset).take (P.cellsOf f.type)) ∧ a'.all AV.flat = true ∧ isT P N h1 k f.type a' := by
          intro i a' f ha hf
          exact r1 i _ a' (by rw [List.getElem?_map, hf]; rfl) ha
        obtain ⟨_, htf⟩ := tile_flat P fs.toList 0 _ cs hct hl
        have hvs : Vs μ1 ass.flatten cs := by
          have := vs_flat (μ := μ1) (ass := ass) (vss := fs.toList.map fun f => (cs.drop f.offset).take (P.cellsOf f.type)) (by simp [hal]) (by
            intro i a' v ha hv
            rw [List.getElem?_map] at hv
            obtain ⟨f, hf, rfl⟩ := Option.map_eq_some_iff.1 hv
            exact (hr i a' f ha hf).1)
          rwa [htf] at this
        have ham : ∀ (i : Nat) (a' : List AV) (f : Field), ass[i]? = some a' → fs.toList[i]? = some f → a'.length = P.cellsOf f.type := by
          intro i a' f ha hf
          have := (tile_le P fs.toList 0 _ hct).2 f (List.mem_of_getElem? hf)
          rw [(hr i a' f ha hf).1.len, List.length_take, List.length_drop, hl]
          omega
        have hall : ∀ (i : Nat) (a' : List AV), ass[i]? = some a' → a'.all AV.flat = true := fun i a' ha => by
          have hil : i < fs.toList.length := by rw [← hal]; exact (List.getElem?_eq_some_iff.1 ha).1
          exact (hr i a' _ ha (List.getElem?_eq_getElem hil)).2.1
        refine ⟨μ1, h1, ass.flatten, l1, x1, s1, n1, hvs, all_flatten hall, ?_, by
          unfold cellsX; rw [hu]
          refine ⟨ass, ?_, rfl⟩
          rw [List.map_map] at c1
          exact c1⟩
        unfold isT; rw [hu]
        refine ⟨by rw [hvs.len, hl], fun f hf => ?_⟩
        obtain ⟨i, hi⟩ := List.mem_iff_getElem?.1 hf
        have hil : i < fs.toList.length := (List.getElem?_eq_some_iff.1 hi).1
        have hia : ass[i]? = some ass[i] := List.getElem?_eq_getElem (by omega)
        have hch := flat_chunk ass i _ hia
        have hoff := tile_sum P fs.toList 0 _ hct i f hi
        have hsum : ((ass.take i).map List.length).sum = ((fs.toList.take i).map fun f => P.cellsOf f.type).sum := by
          congr 1
          apply List.ext_getElem?
          intro j
          rw [List.getElem?_map, List.getElem?_map, List.getElem?_take, List.getElem?_take]
          split
          · cases hj : fs.toList[j]? with
            | none =>
              have : ass[j]? = none := by rw [List.getElem?_eq_none_iff] at hj ⊢; omega
              rw [this]; rfl
            | some g =>
              have hjl : j < ass.length := by have := (List.getElem?_eq_some_iff.1 hj).1; omega
              have hja : ass[j]? = some ass[j] := List.getElem?_eq_getElem hjl
              rw [hja]
              simp [ham j _ g hja hj]
          · rfl
        rw [hsum, ham i _ f hia hi] at hch
        rw [Nat.zero_add] at hoff
        rw [← hoff] at hch
        rw [hch]
        exact (hr i _ f hia hi).2.2
end
end Go.Ya
