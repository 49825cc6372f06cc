/-
  THE ABSTRACT MACHINE (part 9): frozen values. Own work.
  THE ABSTRACT MACHINE (part 9b): a heap packed. Own work.
  THE ABSTRACT MACHINE (part 10): steps of a call's body; loops' heads; what a call hands back. Own work.
  THE ABSTRACT MACHINE (part 11): what a call hands back, in the caller's heap. Own work.
  THE ABSTRACT MACHINE (part 11b): a call. Own work.
  THE ABSTRACT MACHINE (part 12): one operation, calls and rounds and all. Own work.
  THE ABSTRACT MACHINE (part 12b): a region in the text's order. Own work.
  THE ABSTRACT MACHINE (part 12c): regions in the text's order. Own work.
  THE ABSTRACT MACHINE (part 13): what an operation may read and turn. Own work.
  THE ABSTRACT MACHINE (part 13b): what an operation may read and turn, one by one. Own work.
  THE ABSTRACT MACHINE (part 13c): what an operation may read and turn, one by one. Own work.
-/
import Derived.Test.YtbkifahfbcalaaaZa
import Derived.CallsIn
import Derived.RangeFuncIn
set_option linter.unusedSimpArgs false
set_option linter.unusedVariables false
namespace Go.Am
section frz
variable {P : Program} {G : Gh}

theorem get_drop (H : Heap) (Z : List Nat) (b : Nat) : (H.drop Z).get b = if Z.contains b then none else H.get b := by
  simp only [Heap.get, Heap.drop]
  induction H.bs with
  | nil => simp
  | cons q r ih =>
    obtain ⟨k, v⟩ := q
    by_cases hk : Z.contains k = true
    · simp only [List.filter_cons, hk, Bool.not_true, Bool.false_eq_true, if_false, ih, List.lookup_cons]
      by_cases hb : b = k
      · subst hb; rw [if_pos hk, if_pos hk]
      · have : (b == k) = false := by simp [hb]
        rw [this]
    · simp only [List.filter_cons, hk, Bool.not_false, if_true, List.lookup_cons, ih]
      by_cases hb : b = k
      · subst hb; simp only [beq_self_eq_true]; rw [if_neg (by simpa using hk)]
      · have : (b == k) = false := by simp [hb]
        rw [this]
def dropG (G : Gh) (Z : List Nat) : Gh := { G with H := G.H.drop Z }
theorem dropG_get {Z : List Nat} {b : Nat} {x : ABlk} (h : (dropG G Z).H.get b = some x) : G.H.get b = some x ∧ Z.contains b = false := by
  simp only [dropG, get_drop] at h
  split at h
  · cases h
  · rename_i hz; exact ⟨h, by simpa using hz⟩
theorem LStep.dropG (hS : StRel G) (Z : List Nat) : LStep G (dropG G Z) := by
  have he : Ext G (Am.dropG G Z) := {
    size := Nat.le_refl _
    still := fun B hB hM => ⟨fun h => hM (h.imp id fun ⟨b, x, h1, h2⟩ => ⟨b, x, (dropG_get h1).1, h2⟩), rfl⟩
    next := by rintro b g b' g' ha he; cases he; exact ha
    cells := by rintro b b' g' cs' ha he h; cases he; exact ⟨cs', (dropG_get h).1, rfl⟩
    rows := by rintro b g b' g' sz p es' ha he h; cases he; exact ⟨p, es', (dropG_get h).1, rfl, rfl, fun _ _ => Nat.le_refl _⟩
    maps := by rintro b b' g' ks vs ha he h; cases he; exact ⟨ks, vs, (dropG_get h).1, rfl⟩
    yl := .inr rfl
    zero := by rintro b b' g' ha he; cases he; exact fun h => h }
  have hst : StRel (Am.dropG G Z) := {
    next := hS.next
    here := fun b x h => hS.here b x (dropG_get h).1
    gen := fun b g sz p es g' h ha => hS.gen b g sz p es g' (dropG_get h).1 ha
    blk := fun b x h => (hS.blk b x (dropG_get h).1).mv he rfl (fun _ _ _ h => h) (fun _ _ _ => rfl)
    inj := fun b b' x x' B h h' i i' => hS.inj b b' x x' B (dropG_get h).1 (dropG_get h').1 i i'
    low := hS.low }
  exact {
    st := hst, size := Nat.le_refl _, F := rfl, yl := rfl, outer := rfl, os := rfl, tape := rfl, output := rfl, far := fun _ _ _ => rfl
    rng := fun b x B h h' => .inl ⟨b, x, (dropG_get h).1, h'⟩
    A := fun _ _ h => h
    cells := fun b cs' _ h => ⟨cs', (dropG_get h).1, rfl⟩
    rows := fun b g sz p es' _ h => ⟨p, es', (dropG_get h).1, rfl, rfl, fun _ _ => Nat.le_refl _⟩
    maps := fun b ks vs _ h => ⟨ks, vs, (dropG_get h).1, rfl⟩
    kind := fun b g sz p es' g1 _ h => ⟨g, sz, p, es', (dropG_get h).1, Nat.le_refl _⟩ }
theorem not_M_drop (hS : StRel G) {Z : List Nat} {b : Nat} {x : ABlk} {B : Nat} (hz : Z.contains b = true) (hb : G.H.get b = some x) (hi : G.ι b = some B) : ¬ (dropG G Z).M B := by
  rintro (h | ⟨b', x', h1, h2⟩)
  · exact (hS.live hb hi).2 h
  · obtain ⟨h3, h4⟩ := dropG_get h1
    have := hS.inj b' b x' x B h3 hb h2 hi
    subst this
    rw [hz] at h4; cases h4

theorem frz_free {n nL : Nat} {Z : List Nat} {H : Heap} {v : AV} (h : v.refFree = true) : frz n nL Z H v = v := by
  cases n <;> simp [frz, h]
theorem map_frz_free {n nL : Nat} {Z : List Nat} {H : Heap} {cs : List AV} (h : ∀ c ∈ cs, c.refFree = true) : cs.map (frz n nL Z H) = cs := by
  induction cs with
  | nil => rfl
  | cons c r ih => rw [List.map_cons, frz_free (h c (by simp)), ih fun d hd => h d (by simp [hd])]
theorem cells_of_one {v : AV} (h : ∀ cs, v ≠ .agg cs) : v.cells = [v] := by cases v <;> first | rfl | exact absurd rfl (h _)
/-- a frozen element's cells are the element's cells, frozen -/
theorem frz_cells {n nL : Nat} {Z : List Nat} {H : Heap} {e : AV} (h : (frz n nL Z H e).okElem = true) : ∃ m, m ≤ n ∧ (frz n nL Z H e).cells = e.cells.map (frz m nL Z H) := by
  by_cases hf : e.refFree = true
  · exact ⟨n, Nat.le_refl _, by rw [frz_free hf, map_frz_free (AV.refFree_cells hf)]⟩
  · have hff : e.refFree = false := by simpa using hf
    cases n with
    | zero => simp [frz, hff, AV.okElem, AV.cells, AV.one] at h
    | succ n =>
      by_cases hag : ∃ cs, e = .agg cs
      · obtain ⟨cs, rfl⟩ := hag
        refine ⟨n, Nat.le_succ _, ?_⟩
        have : frz (n + 1) nL Z H (.agg cs) = .agg (cs.map (frz n nL Z H)) := by
          rw [frz]; simp only [hff, Bool.false_eq_true, if_false]
        rw [this]; rfl
      · refine ⟨n + 1, Nat.le_refl _, ?_⟩
        have he : e.cells = [e] := cells_of_one fun cs hc => hag ⟨cs, hc⟩
        rw [he, List.map_singleton]
        refine cells_of_one fun cs hc => ?_
        cases e <;> simp only [frz, hff, Bool.false_eq_true, if_false] at hc <;> first
          | exact hag ⟨_, rfl⟩
          | ((repeat' split at hc) <;> (cases hc; done))
          | simp [AV.refFree] at hff

theorem frz_sound (hS : StRel G) {nL : Nat} {Z : List Nat} : ∀ (n m : Nat), m ≤ n → ∀ {v : AV} {c : Value}, VRel G v c → VRel (dropG G Z) (frz m nL Z G.H v) c := by
  have hL := LStep.dropG hS Z
  have hx := hL.ext
  intro n
  induction n with
  | zero =>
    intro m hm v c hv
    have : m = 0 := by omega
    subst this
    simp only [frz]
    split
    · exact hv.ext hx
    · exact .undef _
  | succ n ih =>
    intro m hm v c hv
    rcases Nat.lt_or_ge m (n + 1) with hlt | hge
    · exact ih m (by omega) hv
    · have : m = n + 1 := by omega
      subst this
      by_cases hf : v.refFree = true
      · rw [frz_free hf]; exact hv.ext hx
      · have hlist : ∀ (cs : List AV) (vs : Array Value), (∀ (i : Nat) c v, cs[i]? = some c → vs[i]? = some v → VRel G c v) → ∀ (i : Nat) c v, (cs.map (frz n nL Z G.H))[i]? = some c → vs[i]? = some v → VRel (Am.dropG G Z) c v := by
          intro cs vs h i c v hc hv
          rw [List.getElem?_map, Option.map_eq_some_iff] at hc
          obtain ⟨c0, hc0, rfl⟩ := hc
          exact ih n (Nat.le_refl _) (h i c0 v hc0 hv)
        cases hv with
        | agg cs vs hl h => rw [frz, if_neg hf]; exact .agg _ _ (by simpa using hl) (hlist cs vs h)
        | tup cs vs hl h => rw [frz, if_neg hf]; exact .tup _ _ (by simpa using hl) (hlist cs vs h)
        | fn f a b fs cs hl hl' h h' => rw [frz, if_neg hf]; exact .fn _ _ _ _ _ (by simpa using hl) (by simpa using hl') (hlist a fs h) (hlist b cs h')
        | hs b g v hb h1 hh =>
          rw [frz, if_neg hf]
          split
          · exact (VRel.hs b g _ hb h1 hh).ext hx
          · split
            · exact .undef _
            · rename_i hz
              have hz : Z.contains b = true := by simpa using hz
              split
              · rename_i g' sz p es hbk
                split
                · rename_i hg; subst hg
                  obtain ⟨ad, cap, rfl, hcap, hrest⟩ := hh _ _ _ hbk
                  obtain ⟨⟨hsz0, hrow⟩, hblk⟩ := hS.blk _ _ hbk
                  have key : ∀ (es' : List AV), es'.length = es.length → (∀ (i : Nat) e', es'[i]? = some e' → e'.okElem = true ∧ e'.cells.length = sz ∧
                      ∃ e, es[i]? = some e ∧ ∀ (j : Nat) c', e'.cells[j]? = some c' → ∃ c, e.cells[j]? = some c ∧ ∀ v, VRel G c v → VRel (Am.dropG G Z) c' v) → VRel (Am.dropG G Z) (.vs es') (.slice ad es.length cap) := by
                    intro es' hl hes
                    rcases hblk with ⟨hn, rfl⟩ | ⟨B, hi, hlt, _, ar, el, hw, hsz, hr⟩
                    · rw [List.length_nil] at hl
                      have := List.eq_nil_of_length_eq_zero hl; subst this
                      exact .vs [] ad cap 0 0 0 (fun _ _ => default) hcap (.inl rfl) (by simp) (by simp) (by simp)
                    · rw [← hl]
                      rw [← hl] at hcap
                      have hval : ∀ (i : Nat) e' (j : Nat) c', es'[i]? = some e' → e'.cells[j]? = some c' → ar[i * sz + j]? = some (ar[i * sz + j]?.getD default) ∧ VRel (Am.dropG G Z) c' (ar[i * sz + j]?.getD default) := by
                        intro i e' j c' he hj
                        obtain ⟨_, hln, e, he0, hcc⟩ := hes i e' he
                        obtain ⟨c, hc, hcv⟩ := hcc j c' hj
                        have hjl := (List.getElem?_eq_some_iff.1 hj).1
                        rw [hln] at hjl
                        have := idx_lt (List.getElem?_eq_some_iff.1 he0).1 hjl
                        have hv := get_some_of (vs := ar) (i := i * sz + j) (by omega)
                        have e1 : ar[i * sz + j]?.getD default = ar[i * sz + j] := by rw [hv]; rfl
                        rw [e1]
                        exact ⟨hv, hcv _ (hr i e j c _ he0 hc hv)⟩
                      refine .vs es' ad cap B 0 sz (fun i j => ar[i * sz + j]?.getD default) hcap ?_ (fun i e he => ⟨(hes i e he).1, (hes i e he).2.1⟩) (fun i e j c he hj => ?_) (fun i e j c he hj => (hval i e j c he hj).2)
                      · rcases hrest with ⟨hn, _⟩ | ⟨B', hi', rfl, _⟩
                        · rw [hi] at hn; cases hn
                        · rw [hi] at hi'; cases hi'
                          exact .inr ⟨rfl, not_M_drop hS hz hbk hi, hlt⟩
                      · show G.w.cell? _ = _
                        rw [cell_of hw, Nat.zero_add]; exact (hval i e j c he hj).1
                  split
                  · rename_i hp
                    refine key es rfl fun i e he => ?_
                    have := hrow i e he
                    refine ⟨by simp only [AV.okElem, Bool.and_eq_true, List.all_eq_true]; exact ⟨this.2.2 hp, this.2.1⟩, this.1, e, he, fun j c hc => ⟨c, hc, fun v hv => hv.ext hx⟩⟩
                  · simp only
                    split
                    · rename_i hok
                      refine key _ (by simp) fun i e' he => ?_
                      rw [List.getElem?_map, Option.map_eq_some_iff] at he
                      obtain ⟨e, he, rfl⟩ := he
                      have hoke : (frz n nL Z G.H e).okElem = true := by
                        simp only [List.all_eq_true, List.mem_map] at hok
                        exact hok _ ⟨e, List.mem_of_getElem? he, rfl⟩
                      obtain ⟨m, hm', hcl⟩ := frz_cells hoke
                      refine ⟨hoke, by rw [hcl, List.length_map]; exact (hrow i e he).1, e, he, fun j c' hc' => ?_⟩
                      rw [hcl, List.getElem?_map, Option.map_eq_some_iff] at hc'
                      obtain ⟨c, hc, rfl⟩ := hc'
                      exact ⟨c, hc, fun v hv => ih m hm' hv⟩
                    · exact .undef _
                · exact .undef _
              · exact .undef _
        | hp b off v hb h1 hh =>
          rw [frz, if_neg hf]
          split
          · exact (VRel.hp b off _ hb h1 hh).ext hx
          · split
            · exact .undef _
            · rename_i hz
              have hz : Z.contains b = true := by simpa using hz
              split
              · rename_i cs hbk
                obtain ⟨B, hi, rfl⟩ := hh _ hbk
                obtain ⟨B', hi', hlt, _, ar, el, hw, hsz, hr⟩ := hS.blk _ _ hbk
                rw [hi] at hi'; cases hi'
                simp only
                split
                · rename_i hok
                  have hval : ∀ (j : Nat) c', (cs.map (frz n nL Z G.H))[j]? = some c' → ar[j]? = some (ar[j]?.getD default) ∧ VRel (Am.dropG G Z) c' (ar[j]?.getD default) := by
                    intro j c' hj
                    rw [List.getElem?_map, Option.map_eq_some_iff] at hj
                    obtain ⟨c, hc, rfl⟩ := hj
                    have hjl := (List.getElem?_eq_some_iff.1 hc).1
                    have hv := get_some_of (vs := ar) (i := j) (by omega)
                    have e1 : ar[j]?.getD default = ar[j] := by rw [hv]; rfl
                    rw [e1]
                    exact ⟨hv, ih n (Nat.le_refl _) (hr j c _ hc hv)⟩
                  have := VRel.ip (G := Am.dropG G Z) (cs.map (frz n nL Z G.H)) off B 0 (fun j => ar[j]?.getD default) (not_M_drop hS hz hbk hi) hlt (by rw [AV.refFreeL_all]; exact hok)
                    (fun j c hj => by show G.w.cell? _ = _; rw [cell_of hw, Nat.zero_add]; exact (hval j c hj).1) (fun j c hj => (hval j c hj).2)
                  rwa [Nat.zero_add] at this
                · exact .undef _
              · exact .undef _
        | hm b v hb h1 hh =>
          rw [frz, if_neg hf]
          split
          · exact (VRel.hm b _ hb h1 hh).ext hx
          · split
            · exact .undef _
            · rename_i hz
              have hz : Z.contains b = true := by simpa using hz
              split
              · rename_i ks vs hbk
                obtain ⟨B, hi, rfl⟩ := hh _ _ hbk
                obtain ⟨B', hi', hlt, _, es, clock, hw, hk, hvl, hkr, hvr⟩ := hS.blk _ _ hbk
                rw [hi] at hi'; cases hi'
                simp only
                split
                · rename_i hok
                  simp only [Bool.and_eq_true] at hok
                  refine .fm _ _ B es clock (not_M_drop hS hz hbk hi) hlt hw (by simpa using hk) (by simpa using hvl) (by rw [AV.refFreeL_all]; exact hok.1) (by rw [AV.refFreeL_all]; exact hok.2) (fun i k e h2 h3 => ?_) (fun i k e h2 h3 => ?_)
                  · rw [List.getElem?_map, Option.map_eq_some_iff] at h2
                    obtain ⟨c, hc, rfl⟩ := h2
                    exact ih n (Nat.le_refl _) (hkr i c e hc h3)
                  · rw [List.getElem?_map, Option.map_eq_some_iff] at h2
                    obtain ⟨c, hc, rfl⟩ := h2
                    exact ih n (Nat.le_refl _) (hvr i c e hc h3)
                · exact .undef _
              · exact .undef _
        | hq b g o k v hb h1 hh =>
          rw [frz, if_neg hf]
          split
          · exact .undef _
          · rename_i hz
            simp only [Bool.or_eq_true, decide_eq_true_eq, Bool.not_eq_true', not_or, Bool.not_eq_false] at hz
            obtain ⟨_, hz⟩ := hz
            split
            · rename_i g' sz es hbk
              split
              · rename_i hg
                simp only [Bool.and_eq_true, decide_eq_true_eq] at hg
                obtain ⟨rfl, hle⟩ := hg
                obtain ⟨ad, cap, rfl, hcap, hrest⟩ := hh _ _ _ hbk hle
                obtain ⟨⟨hsz0, hrow⟩, hblk⟩ := hS.blk _ _ hbk
                have hln : ((es.drop o).take k).length = k := by simp; omega
                have hget : ∀ (i : Nat) e, ((es.drop o).take k)[i]? = some e → es[o + i]? = some e := by
                  intro i e he
                  have hi := (List.getElem?_eq_some_iff.1 he).1
                  rw [hln] at hi
                  rwa [List.getElem?_take, if_pos hi, List.getElem?_drop] at he
                have hnil : k = 0 → VRel (Am.dropG G Z) (.vs ((es.drop o).take k)) (.slice ad k cap) := by
                  rintro rfl
                  simp only [List.take_zero]
                  exact .vs [] ad cap 0 0 0 (fun _ _ => default) (Nat.zero_le _) (.inl rfl) (by simp) (by simp) (by simp)
                rcases hblk with ⟨hn, rfl⟩ | ⟨B, hi, hlt, _, ar, el, hw, hsz, hr⟩
                · exact hnil (by simp at hle; omega)
                · rcases hrest with ⟨rfl, _⟩ | ⟨hn, _⟩ | ⟨B', hi', rfl, _⟩
                  · exact hnil rfl
                  · rw [hi] at hn; cases hn
                  · rw [hi] at hi'; cases hi'
                    have hval : ∀ (i : Nat) e (j : Nat) c, ((es.drop o).take k)[i]? = some e → e.cells[j]? = some c → ar[(o + i) * sz + j]? = some (ar[(o + i) * sz + j]?.getD default) ∧ VRel (Am.dropG G Z) c (ar[(o + i) * sz + j]?.getD default) := by
                      intro i e j c he hj
                      have he' := hget i e he
                      have hjl := (List.getElem?_eq_some_iff.1 hj).1
                      rw [(hrow _ e he').1] at hjl
                      have := idx_lt (List.getElem?_eq_some_iff.1 he').1 hjl
                      have hv := get_some_of (vs := ar) (i := (o + i) * sz + j) (by omega)
                      have e1 : ar[(o + i) * sz + j]?.getD default = ar[(o + i) * sz + j] := by rw [hv]; rfl
                      rw [e1]
                      exact ⟨hv, (hr _ e j c _ he' hj hv).ext hx⟩
                    have := VRel.vs (G := Am.dropG G Z) ((es.drop o).take k) (some ⟨B, o * sz, none⟩) cap B (o * sz) sz (fun i j => ar[(o + i) * sz + j]?.getD default) (by omega) (.inr ⟨rfl, not_M_drop hS hz hbk hi, hlt⟩)
                      (fun i e he => by
                        have := hrow _ e (hget i e he)
                        exact ⟨by simp only [AV.okElem, Bool.and_eq_true, List.all_eq_true]; exact ⟨this.2.2 rfl, this.2.1⟩, this.1⟩)
                      (fun i e j c he hj => by show G.w.cell? _ = _; rw [← Nat.add_mul, cell_of hw]; exact (hval i e j c he hj).1) (fun i e j c he hj => (hval i e j c he hj).2)
                    rwa [hln] at this
              · exact .undef _
            · exact .undef _
        | he b g i off v hb h1 hh => simp only [frz, hf, Bool.false_eq_true, if_false]; exact .undef _
        | yld l h => simp only [frz, hf, Bool.false_eq_true, if_false]; exact .undef _
        | _ => simp [AV.refFree] at hf

theorem pFrz_sound (hS : StRel G) {nL : Nat} {v : AV} {c : Value} (hv : VRel G v c) : ∃ G2, LStep G G2 ∧ G2.w = G.w ∧ G2.H = (pFrz nL v G.H).2 ∧ G2.A = G.A ∧ G2.ι = G.ι ∧ VRel G2 (pFrz nL v G.H).1 c := by
  unfold pFrz
  split
  · exact ⟨G, .refl hS, rfl, rfl, rfl, rfl, hv⟩
  · exact ⟨dropG G _, .dropG hS _, rfl, rfl, rfl, rfl, frz_sound hS 12 12 (Nat.le_refl _) hv⟩
end frz
end Go.Am
namespace Go.Am
section pack
variable {P : Program} {G : Gh}

theorem lookup_zip (l : List ABlk) : ∀ (s i : Nat), ((List.range' s l.length).zip l).lookup i = if s ≤ i then l[i - s]? else none := by
  induction l with
  | nil => intro s i; simp
  | cons x r ih =>
    intro s i
    simp only [List.length_cons, List.range'_succ, List.zip_cons_cons, List.lookup_cons]
    by_cases h : i = s
    · subst h; simp
    · have : (i == s) = false := by simp [h]
      rw [this, ih]
      by_cases h2 : s ≤ i
      · rw [if_pos h2, if_pos (by omega)]
        rw [show i - s = (i - (s + 1)) + 1 by omega]
        simp
      · rw [if_neg h2, if_neg (by omega)]
theorem heapOf_get (l : List ABlk) (i : Nat) : (heapOf l).get i = l[i]? := by
  simp only [heapOf, Heap.get, List.range_eq_range']
  rw [lookup_zip]; simp
theorem filterMap_all {α β : Type} (f : α → Option β) : ∀ l : List α, (l.filterMap f).length = l.length → ∀ i : Nat, (l.filterMap f)[i]? = (l[i]?).bind f
  | [], _, i => by simp
  | a :: r, h, i => by
    cases ha : f a with
    | none =>
      rw [List.filterMap_cons_none ha] at h
      have := List.length_filterMap_le f r
      simp only [List.length_cons] at h; omega
    | some b =>
      rw [List.filterMap_cons_some ha] at h ⊢
      have hr : (r.filterMap f).length = r.length := by simpa using h
      cases i with
      | zero => simp [ha]
      | succ n => simpa using filterMap_all f r hr n
theorem pack_get {H : Heap} {order : List Nat} {h : Nat → Nat → Nat} (hl : (pack H order h).length = order.length) (i : Nat) :
    (heapOf (pack H order h)).get i = (order[i]?).bind fun b => (H.get b).map (·.ren (toIdx H order h) (h b)) := by
  rw [heapOf_get]
  exact filterMap_all _ order hl i
theorem nodup_rev {l : List Nat} (h : l.Nodup) : l.reverse.Nodup := by
  unfold List.Nodup at *
  rw [List.pairwise_reverse]; exact h.imp fun q => q.symm
theorem reach_nodup (H : Heap) : ∀ (k : Nat) (todo acc : List Nat), acc.Nodup → (reach H k todo acc).Nodup
  | 0, _, acc, h => by simp only [reach]; exact nodup_rev h
  | k + 1, [], acc, h => by simp only [reach]; exact nodup_rev h
  | k + 1, b :: todo, acc, h => by
    simp only [reach]
    split
    · exact reach_nodup H k todo acc h
    · rename_i hb
      split
      · exact reach_nodup H k todo _ (List.nodup_cons.2 ⟨by simpa using hb, h⟩)
      · exact reach_nodup H k _ _ (List.nodup_cons.2 ⟨by simpa using hb, h⟩)
theorem reached_nodup (H : Heap) (roots : List AV) : (reached H roots).Nodup := (reach_nodup H _ _ _ List.nodup_nil).filter _
theorem order_nodup (H : Heap) (roots : List AV) (nL : Nat) : (List.range nL ++ (reached H roots).filter (nL ≤ ·)).Nodup := by
  rw [List.nodup_append]
  refine ⟨List.nodup_range, (reached_nodup H roots).filter _, ?_⟩
  intro a ha b hb
  simp only [List.mem_range] at ha
  simp only [List.mem_filter, decide_eq_true_eq] at hb
  omega

theorem idxOf_some {order : List Nat} {b i : Nat} (h : order.idxOf? b = some i) : order[i]? = some b := by
  have h1 := List.idxOf?_eq_some_iff.1 h
  obtain ⟨hlt, he, _⟩ := h1
  rw [List.getElem?_eq_getElem hlt]
  simpa using he
theorem nodup_idx {order : List Nat} (h : order.Nodup) {i j b : Nat} (hi : order[i]? = some b) (hj : order[j]? = some b) : i = j := by
  have h1 := (List.getElem?_eq_some_iff.1 hi).1
  exact (List.getElem?_inj h1 h).1 (hi.trans hj.symm)

theorem ren_cells (f : Nat → Nat → Option (Nat × Nat)) (v : AV) : (v.ren f).cells = v.cells.map (AV.ren f) := by
  by_cases hag : ∃ cs, v = .agg cs
  · obtain ⟨cs, rfl⟩ := hag
    simp only [AV.ren, AV.cells, AV.renL_map]
  · rw [cells_of_one fun cs hc => hag ⟨cs, hc⟩, List.map_singleton]
    refine cells_of_one fun cs hc => ?_
    cases v <;> simp only [AV.ren] at hc <;> first
      | exact hag ⟨_, rfl⟩
      | (cases hc; done)
      | (split at hc <;> cases hc)
theorem renL_length (f : Nat → Nat → Option (Nat × Nat)) (l : List AV) : (AV.renL f l).length = l.length := by rw [AV.renL_map, List.length_map]
theorem renL_get {f : Nat → Nat → Option (Nat × Nat)} {l : List AV} {i : Nat} {y : AV} (h : (AV.renL f l)[i]? = some y) : ∃ x, l[i]? = some x ∧ y = x.ren f := by
  rw [AV.renL_map, List.getElem?_map, Option.map_eq_some_iff] at h
  obtain ⟨x, hx, rfl⟩ := h
  exact ⟨x, hx, rfl⟩
theorem ABlk.ren_cells_inv {f : Nat → Nat → Option (Nat × Nat)} {h : Nat → Nat} {x : ABlk} {cs : List AV} (e : x.ren f h = .cells cs) : ∃ c0, x = .cells c0 ∧ cs = AV.renL f c0 := by
  cases x with
  | cells c0 => simp only [ABlk.ren, ABlk.cells.injEq] at e; exact ⟨c0, rfl, e.symm⟩
  | sl g sz p es => cases p <;> simp [ABlk.ren] at e
  | map ks vs => simp [ABlk.ren] at e
theorem ABlk.ren_sl_inv {f : Nat → Nat → Option (Nat × Nat)} {h : Nat → Nat} {x : ABlk} {g sz : Nat} {p : Bool} {es : List AV} (e : x.ren f h = .sl g sz p es) :
    ∃ g0 e0, x = .sl g0 sz p e0 ∧ g = h g0 ∧ ((p = true ∧ es = e0) ∨ (p = false ∧ es = AV.renL f e0)) := by
  cases x with
  | cells c0 => simp [ABlk.ren] at e
  | sl g0 sz0 p0 es0 =>
    cases p0 <;> simp only [ABlk.ren, ABlk.sl.injEq] at e
    · obtain ⟨rfl, rfl, rfl, rfl⟩ := e; exact ⟨g0, es0, rfl, rfl, .inr ⟨rfl, rfl⟩⟩
    · obtain ⟨rfl, rfl, rfl, rfl⟩ := e; exact ⟨g0, es0, rfl, rfl, .inl ⟨rfl, rfl⟩⟩
  | map ks vs => simp [ABlk.ren] at e
theorem ABlk.ren_map_inv {f : Nat → Nat → Option (Nat × Nat)} {h : Nat → Nat} {x : ABlk} {ks vs : List AV} (e : x.ren f h = .map ks vs) : ∃ k0 v0, x = .map k0 v0 ∧ ks = AV.renL f k0 ∧ vs = AV.renL f v0 := by
  cases x with
  | cells c0 => simp [ABlk.ren] at e
  | sl g sz p es => cases p <;> simp [ABlk.ren] at e
  | map k0 v0 => simp only [ABlk.ren, ABlk.map.injEq] at e; exact ⟨k0, v0, rfl, e.1.symm, e.2.symm⟩
theorem ABlk.ren_gen (f : Nat → Nat → Option (Nat × Nat)) {h : Nat → Nat} (h0 : h 0 = 0) (x : ABlk) : (x.ren f h).gen = h x.gen := by
  cases x with
  | cells c0 => simp [ABlk.ren, ABlk.gen, h0]
  | sl g sz p es => cases p <;> simp [ABlk.ren, ABlk.gen]
  | map ks vs => simp [ABlk.ren, ABlk.gen, h0]

/-- a block renamed says what it said -/
theorem BlkRel.ren {G2 : Gh} {f : Nat → Nat → Option (Nat × Nat)} {h : Nat → Nat} {b i : Nat} {x : ABlk} (hb : BlkRel G b x) (hf : RenOk G G2 f) (hw : ∀ B, G.ι b = some B → G2.w.heap[B]? = G.w.heap[B]?) (hi : G2.ι i = G.ι b)
    (hF : ∀ B, G.ι b = some B → ¬ G2.F B) (hok : (x.ren f h).okRow = true) : BlkRel G2 i (x.ren f h) := by
  cases x with
  | cells cs =>
    obtain ⟨B, h1, h2, h3, c, e, h4, h5, h6⟩ := hb
    refine ⟨B, hi.trans h1, Nat.lt_of_lt_of_le h2 hf.size, hF B h1, c, e, (hw B h1).trans h4, by rw [renL_length]; exact h5, fun j y v hj hv => ?_⟩
    obtain ⟨y0, hy0, rfl⟩ := renL_get hj
    exact (h6 j y0 v hy0 hv).ren hf
  | map ks vs =>
    obtain ⟨B, h1, h2, h3, es, clock, h4, h5, h6, h7, h8⟩ := hb
    refine ⟨B, hi.trans h1, Nat.lt_of_lt_of_le h2 hf.size, hF B h1, es, clock, (hw B h1).trans h4, by rw [renL_length]; exact h5, by rw [renL_length]; exact h6, fun j y v hj hv => ?_, fun j y v hj hv => ?_⟩
    · obtain ⟨y0, hy0, rfl⟩ := renL_get hj
      exact (h7 j y0 v hy0 hv).ren hf
    · obtain ⟨y0, hy0, rfl⟩ := renL_get hj
      exact (h8 j y0 v hy0 hv).ren hf
  | sl g sz p es =>
    obtain ⟨⟨hsz, hrow⟩, hblk⟩ := hb
    cases p with
    | true =>
      refine ⟨⟨hsz, hrow⟩, hblk.imp (fun q => ⟨hi.trans q.1, q.2⟩) fun ⟨B, h1, h2, h3, c, e, h4, h5, h6⟩ => ⟨B, hi.trans h1, Nat.lt_of_lt_of_le h2 hf.size, hF B h1, c, e, (hw B h1).trans h4, h5, fun k y j z v a b d => ?_⟩⟩
      have := (h6 k y j z v a b d).ren hf
      rwa [AV.ren_free f z (AV.refFree_cells ((hrow k y a).2.2 rfl) z (List.mem_of_getElem? b))] at this
    | false =>
      refine ⟨⟨hsz, fun k y hk => ?_⟩, hblk.imp (fun q => ⟨hi.trans q.1, by rw [q.2]; rfl⟩) fun ⟨B, h1, h2, h3, c, e, h4, h5, h6⟩ => ⟨B, hi.trans h1, Nat.lt_of_lt_of_le h2 hf.size, hF B h1, c, e, (hw B h1).trans h4, by rw [renL_length]; exact h5, fun k y j z v a b d => ?_⟩⟩
      · obtain ⟨y0, hy0, rfl⟩ := renL_get hk
        refine ⟨by rw [ren_cells, List.length_map]; exact (hrow k y0 hy0).1, ?_, by simp⟩
        simp only [ABlk.ren, ABlk.okRow, List.all_eq_true] at hok
        intro c hc
        exact hok _ (List.mem_of_getElem? hk) c hc
      · obtain ⟨y0, hy0, rfl⟩ := renL_get a
        rw [ren_cells, List.getElem?_map, Option.map_eq_some_iff] at b
        obtain ⟨z0, hz0, rfl⟩ := b
        exact (h6 k y0 j z0 v hy0 hz0 d).ren hf

/-- the packed state -/
def packG (G : Gh) (F2 : Nat → Prop) (order : List Nat) (h : Nat → Nat → Nat) (nL : Nat) (out : List OSt) : Gh :=
  { w := G.w, F := F2, ι := fun i => (order[i]?).bind G.ι, yl := G.yl, H := { heapOf (pack G.H order h) with outer := out }
    A := fun b g => (∃ x, (heapOf (pack G.H order h)).get b = some x ∧ x.gen = g) ∨ (b < nL ∧ ∃ o, order[b]? = some o ∧ G.A o g) }
theorem packG_get {F2 : Nat → Prop} {order : List Nat} {h : Nat → Nat → Nat} {nL : Nat} {out : List OSt} (hl : (pack G.H order h).length = order.length) {i : Nat} {x : ABlk} (hx : (packG G F2 order h nL out).H.get i = some x) :
    ∃ o y, order[i]? = some o ∧ G.H.get o = some y ∧ x = y.ren (toIdx G.H order h) (h o) ∧ (packG G F2 order h nL out).ι i = G.ι o := by
  have h1 : (heapOf (pack G.H order h)).get i = some x := hx
  rw [pack_get hl, Option.bind_eq_some_iff] at h1
  obtain ⟨o, ho, h1⟩ := h1
  rw [Option.map_eq_some_iff] at h1
  obtain ⟨y, hy, rfl⟩ := h1
  exact ⟨o, y, ho, hy, rfl, by simp [packG, ho]⟩
theorem toIdx_some {H : Heap} {order : List Nat} {h : Nat → Nat → Nat} {b g i g' : Nat} (e : toIdx H order h b g = some (i, g')) :
    order[i]? = some b ∧ ∃ x, H.get b = some x ∧ ((∃ sz p es, x = .sl g sz p es ∧ g' = h b g) ∨ ((∀ g sz p es, x ≠ .sl g sz p es) ∧ g' = 0)) := by
  unfold toIdx at e
  split at e
  · rename_i i0 g0 sz p es hi hx
    split at e
    · rename_i hg; subst hg; cases e
      exact ⟨idxOf_some hi, _, hx, .inl ⟨sz, p, es, rfl, rfl⟩⟩
    · cases e
  · rename_i i0 x hn hi hx
    cases e
    exact ⟨idxOf_some hi, x, hx, .inr ⟨fun g sz p es q => hn g sz p es (by rw [q]), rfl⟩⟩
  · cases e

theorem pack_sound (hS : StRel G) {F2 : Nat → Prop} {order : List Nat} {h : Nat → Nat → Nat} {nL : Nat} {out : List OSt} (hok : packOk G.H order h = true) (hnd : order.Nodup) (h0 : ∀ b, h b 0 = 0)
    (hkeep : ∀ i o g, i < nL → order[i]? = some o → h o g = g) (hF : ∀ B, F2 B → G.M B) (hF' : ∀ b B, b ∈ order → G.ι b = some B → ¬ F2 B) :
    StRel (packG G F2 order h nL out) ∧ RenOk G (packG G F2 order h nL out) (toIdx G.H order h) := by
  simp only [packOk, Bool.and_eq_true, beq_iff_eq, List.all_eq_true] at hok
  obtain ⟨hl, hrows⟩ := hok
  have hnl : (packG G F2 order h nL out).H.next = order.length := hl
  have hMlt : ∀ B, G.M B → B < G.w.heap.size := by
    rintro B (q | ⟨b, x, hb, hi⟩)
    · exact hS.low B q
    · exact (hS.live hb hi).1
  have hgetIdx : ∀ {b g i g' : Nat} {x : ABlk}, toIdx G.H order h b g = some (i, g') → (packG G F2 order h nL out).H.get i = some x → ∃ y, G.H.get b = some y ∧ x = y.ren (toIdx G.H order h) (h b) ∧ (packG G F2 order h nL out).ι i = G.ι b := by
    intro b g i g' x e hx
    obtain ⟨ho, _⟩ := toIdx_some e
    obtain ⟨o, y, ho', hy, rfl, hi⟩ := packG_get hl hx
    rw [ho] at ho'; cases ho'
    exact ⟨y, hy, rfl, hi⟩
  have hren : RenOk G (packG G F2 order h nL out) (toIdx G.H order h) := {
    size := Nat.le_refl _
    still := fun B hB hM => ⟨fun q => hM (by
      rcases q with q | ⟨i, x, hx, hi⟩
      · exact hF B q
      · obtain ⟨o, y, ho, hy, _, hio⟩ := packG_get hl hx
        exact .inr ⟨o, y, hy, hio ▸ hi⟩), rfl⟩
    next := fun b g i g' ha e => by
      obtain ⟨ho, x, hx, hc⟩ := toIdx_some e
      have hg : (heapOf (pack G.H order h)).get i = some (x.ren (toIdx G.H order h) (h b)) := by rw [pack_get hl, ho]; simp [hx]
      refine .inl ⟨_, hg, ?_⟩
      rw [ABlk.ren_gen _ (h0 b)]
      rcases hc with ⟨sz, p, es, rfl, rfl⟩ | ⟨hn, rfl⟩
      · rfl
      · have : x.gen = 0 := by cases x <;> first | rfl | exact absurd rfl (hn _ _ _ _)
        rw [this, h0]
    cells := fun b i g' cs' ha e hx => by
      obtain ⟨y, hy, e2, hi⟩ := hgetIdx e hx
      obtain ⟨c0, rfl, _⟩ := ABlk.ren_cells_inv e2.symm
      exact ⟨c0, hy, hi⟩
    rows := fun b g i g' sz p es' ha e hx => by
      obtain ⟨y, hy, e2, hi⟩ := hgetIdx e hx
      obtain ⟨g0, e0, rfl, hg, hes⟩ := ABlk.ren_sl_inv e2.symm
      obtain ⟨_, x, hx', hc⟩ := toIdx_some e
      rw [hy] at hx'; cases hx'
      rcases hc with ⟨sz', p', es'', hq, _⟩ | ⟨hn, _⟩
      · cases hq
        refine ⟨p, e0, hy, ?_, hi, fun _ _ => Nat.le_refl _⟩
        rcases hes with ⟨_, rfl⟩ | ⟨_, rfl⟩
        · rfl
        · rw [renL_length]
      · exact absurd rfl (hn _ _ _ _)
    maps := fun b i g' ks vs ha e hx => by
      obtain ⟨y, hy, e2, hi⟩ := hgetIdx e hx
      obtain ⟨k0, v0, rfl, _⟩ := ABlk.ren_map_inv e2.symm
      exact ⟨k0, v0, hy, hi⟩
    yl := .inr rfl
    zero := fun b i g' ha e ha2 => by
      obtain ⟨_, x, _, hc⟩ := toIdx_some e
      rcases hc with ⟨sz, p, es, _, rfl⟩ | ⟨_, rfl⟩
      · rwa [h0] at ha2
      · exact ha2 }
  refine ⟨{
    next := fun b g ha => by
      rw [hnl]
      rcases ha with ⟨x, hx, _⟩ | ⟨_, o, ho, _⟩
      · obtain ⟨o, y, ho, _⟩ := packG_get (F2 := F2) (nL := nL) (out := out) hl hx
        exact (List.getElem?_eq_some_iff.1 ho).1
      · exact (List.getElem?_eq_some_iff.1 ho).1
    here := fun b x hx => .inl ⟨x, hx, rfl⟩
    gen := fun b g sz p es g' hx ha => by
      rcases ha with ⟨x, hx', rfl⟩ | ⟨hb, o, ho, hA⟩
      · have : (heapOf (pack G.H order h)).get b = some (.sl g sz p es) := hx
        rw [hx'] at this; cases this; exact Nat.le_refl _
      · obtain ⟨o', y, ho', hy, e, _⟩ := packG_get hl hx
        rw [ho] at ho'; cases ho'
        obtain ⟨g0, e0, rfl, hg, _⟩ := ABlk.ren_sl_inv e.symm
        rw [hg, hkeep b o g0 hb ho]
        exact hS.gen o g0 sz p e0 g' hy hA
    blk := fun b x hx => by
      obtain ⟨o, y, ho, hy, rfl, hi⟩ := packG_get hl hx
      refine (hS.blk o y hy).ren hren (fun _ _ => rfl) hi (fun B hB => hF' o B (List.mem_of_getElem? ho) hB) (hrows _ ?_)
      have : (heapOf (pack G.H order h)).get b = some (y.ren (toIdx G.H order h) (h o)) := hx
      rw [heapOf_get] at this
      exact List.mem_of_getElem? this
    inj := fun b b' x x' B hx hx' hi hi' => by
      obtain ⟨o, y, ho, hy, _, hio⟩ := packG_get hl hx
      obtain ⟨o', y', ho', hy', _, hio'⟩ := packG_get hl hx'
      have := hS.inj o o' y y' B hy hy' (hio ▸ hi) (hio' ▸ hi')
      subst this
      exact nodup_idx hnd ho ho'
    low := fun B q => hMlt B (hF B q) }, hren⟩
end pack
end Go.Am
namespace Go.Am
section steps
variable {P : Program}

/-- a step of a call's body: blocks for which N holds keep their places; y: yields may have turned the foreign blocks -/
structure AStep (N : Nat → Prop) (y : Bool) (G G2 : Gh) : Prop where
  st : StRel G2
  size : G.w.heap.size ≤ G2.w.heap.size
  F1 : ∀ B, G.F B → G2.F B
  F2 : ∀ B, G2.F B → G.F B ∨ G.w.heap.size ≤ B
  yl : G2.yl = G.yl
  outer : y = false → G2.H.outer = G.H.outer
  os : G2.w.os = G.w.os
  tape : G2.w.tape = G.w.tape
  output : G2.w.output = G.w.output
  far : ∀ B, B < G.w.heap.size → (∀ b x, G.H.get b = some x → G.ι b ≠ some B) → (y = false ∨ ¬ G.F B) → G2.w.heap[B]? = G.w.heap[B]?
  rng : ∀ b x B, G2.H.get b = some x → G2.ι b = some B → (∃ b0 x0, G.H.get b0 = some x0 ∧ G.ι b0 = some B) ∨ G.w.heap.size ≤ B
  A : ∀ b g, N b → G.A b g → G2.A b g
  cells : ∀ b cs', N b → G.A b 0 → G2.H.get b = some (.cells cs') → ∃ cs, G.H.get b = some (.cells cs) ∧ G2.ι b = G.ι b
  rows : ∀ b g sz p es', N b → G.A b g → G2.H.get b = some (.sl g sz p es') →
    ∃ p0 es, G.H.get b = some (.sl g sz p0 es) ∧ es.length = es'.length ∧ G2.ι b = G.ι b ∧ ∀ B, G.ι b = some B → bsz G.w B ≤ bsz G2.w B
  maps : ∀ b ks vs, N b → G.A b 0 → G2.H.get b = some (.map ks vs) → ∃ ks0 vs0, G.H.get b = some (.map ks0 vs0) ∧ G2.ι b = G.ι b
  kind : ∀ b g sz p es' g1, N b → G.A b g1 → G2.H.get b = some (.sl g sz p es') → ∃ g0 sz0 p0 es, G.H.get b = some (.sl g0 sz0 p0 es) ∧ g0 ≤ g

variable {N : Nat → Prop} {y : Bool} {G G1 G2 : Gh}
theorem LStep.a (h : LStep G G2) : AStep N y G G2 where
  st := h.st
  size := h.size
  F1 B q := by rw [h.F]; exact q
  F2 B q := by rw [h.F] at q; exact .inl q
  yl := h.yl
  outer _ := h.outer
  os := h.os
  tape := h.tape
  output := h.output
  far B hB hn _ := h.far B hB hn
  rng := h.rng
  A b g _ ha := h.A b g ha
  cells b cs' _ := h.cells b cs'
  rows b g sz p es' _ := h.rows b g sz p es'
  maps b ks vs _ := h.maps b ks vs
  kind b g sz p es' g1 _ := h.kind b g sz p es' g1
theorem AStep.refl (h : StRel G) : AStep N y G G := (LStep.refl h).a
theorem AStep.mono {N' : Nat → Prop} (h : AStep N y G G2) (hN : ∀ b, N' b → N b) : AStep N' y G G2 where
  st := h.st
  size := h.size
  F1 := h.F1
  F2 := h.F2
  yl := h.yl
  outer := h.outer
  os := h.os
  tape := h.tape
  output := h.output
  far := h.far
  rng := h.rng
  A b g hb := h.A b g (hN b hb)
  cells b cs' hb := h.cells b cs' (hN b hb)
  rows b g sz p es' hb := h.rows b g sz p es' (hN b hb)
  maps b ks vs hb := h.maps b ks vs (hN b hb)
  kind b g sz p es' g1 hb := h.kind b g sz p es' g1 (hN b hb)
theorem AStep.any {y' : Bool} (h : AStep N y G G2) (hy : y = true → y' = true) : AStep N y' G G2 where
  st := h.st
  size := h.size
  F1 := h.F1
  F2 := h.F2
  yl := h.yl
  outer q := h.outer (by cases y <;> simp_all)
  os := h.os
  tape := h.tape
  output := h.output
  far B hB hn q := h.far B hB hn (by cases y <;> simp_all)
  rng := h.rng
  A := h.A
  cells := h.cells
  rows := h.rows
  maps := h.maps
  kind := h.kind
theorem AStep.trans (h : AStep N y G G1) (k : AStep N y G1 G2) : AStep N y G G2 where
  st := k.st
  size := Nat.le_trans h.size k.size
  F1 B q := k.F1 B (h.F1 B q)
  F2 B q := by
    rcases k.F2 B q with q | q
    · exact h.F2 B q
    · have := h.size; exact .inr (by omega)
  yl := k.yl.trans h.yl
  outer q := (k.outer q).trans (h.outer q)
  os := k.os.trans h.os
  tape := k.tape.trans h.tape
  output := k.output.trans h.output
  far B hB hn hF := by
    refine (k.far B (Nat.lt_of_lt_of_le hB h.size) (fun b x hb hi => ?_) (hF.imp id fun q q1 => ?_)).trans (h.far B hB hn hF)
    · rcases h.rng b x B hb hi with ⟨b0, x0, h0, h2⟩ | h0
      · exact hn b0 x0 h0 h2
      · omega
    · rcases h.F2 B q1 with q2 | q2
      · exact q q2
      · omega
  rng b x B hb hi := by
    rcases k.rng b x B hb hi with ⟨b0, x0, h0, h1⟩ | h0
    · rcases h.rng b0 x0 B h0 h1 with h2 | h2
      · exact .inl h2
      · exact .inr h2
    · have := h.size; exact .inr (by omega)
  A b g hb ha := k.A b g hb (h.A b g hb ha)
  cells b cs' hb ha hc := by
    obtain ⟨cs1, h1, h2⟩ := k.cells b cs' hb (h.A _ _ hb ha) hc
    obtain ⟨cs0, h3, h4⟩ := h.cells b cs1 hb ha h1
    exact ⟨cs0, h3, h2.trans h4⟩
  rows b g sz p es' hb ha hc := by
    obtain ⟨p1, es1, h1, h2, h3, h4⟩ := k.rows b g sz p es' hb (h.A _ _ hb ha) hc
    obtain ⟨p0, es0, h5, h6, h7, h8⟩ := h.rows b g sz p1 es1 hb ha h1
    exact ⟨p0, es0, h5, h6.trans h2, h3.trans h7, fun B hB => Nat.le_trans (h8 B hB) (h4 B (h7.trans hB))⟩
  maps b ks vs hb ha hc := by
    obtain ⟨k1, v1, h1, h2⟩ := k.maps b ks vs hb (h.A _ _ hb ha) hc
    obtain ⟨k0, v0, h3, h4⟩ := h.maps b k1 v1 hb ha h1
    exact ⟨k0, v0, h3, h2.trans h4⟩
  kind b g sz p es' g1 hb ha hc := by
    obtain ⟨g0, sz0, p0, es, h1, h2⟩ := k.kind b g sz p es' g1 hb (h.A _ _ hb ha) hc
    obtain ⟨g2, sz2, p2, es2, h3, h4⟩ := h.kind b g0 sz0 p0 es g1 hb ha h1
    exact ⟨g2, sz2, p2, es2, h3, Nat.le_trans h4 h2⟩
theorem AStep.ext (h : AStep (fun _ => True) y G G2) : Ext G G2 where
  size := h.size
  still B hB hM := by
    refine ⟨fun q => ?_, h.far B hB (fun b x hb hi => hM (.inr ⟨b, x, hb, hi⟩)) (.inr fun q => hM (.inl q))⟩
    rcases q with q | ⟨b, x, hb, hi⟩
    · rcases h.F2 B q with q | q
      · exact hM (.inl q)
      · omega
    · rcases h.rng b x B hb hi with ⟨b0, x0, h0, h1⟩ | q
      · exact hM (.inr ⟨b0, x0, h0, h1⟩)
      · omega
  next := by rintro b g b' g' ha he; cases he; exact h.A _ _ trivial ha
  cells := by rintro b b' g' cs' ha he; cases he; exact h.cells _ _ trivial ha
  rows := by rintro b g b' g' sz p es' ha he; cases he; exact h.rows _ _ _ _ _ trivial ha
  maps := by rintro b b' g' ks vs ha he; cases he; exact h.maps _ _ _ trivial ha
  yl := .inr h.yl
  zero := by rintro b b' g' ha he; cases he; exact fun h => h

/-! ### frames -/
def FRel (G : Gh) (fr : List AV) (val : Nat → Option Value) : Prop := ∀ (i : Nat) v c, fr[i]? = some v → val i = some c → VRel G v c
theorem FRel.ext {G G2 : Gh} {fr : List AV} {val : Nat → Option Value} (h : FRel G fr val) (he : Ext G G2) : FRel G2 fr val := fun i v c hv hc => (h i v c hv hc).ext he
theorem FRel.keep {G : Gh} {fr : List AV} {val : Nat → Option Value} (h : FRel G fr val) (keep : List Bool) : FRel G ((fr.zip keep).map fun q => if q.2 then q.1 else .undef) val := by
  intro i v c hv hc
  rw [List.getElem?_map, Option.map_eq_some_iff] at hv
  obtain ⟨q, hq, rfl⟩ := hv
  rw [List.getElem?_zip_eq_some] at hq
  split
  · exact h i q.1 c hq.1 hc
  · exact .undef _
theorem FRel.renL {G G2 : Gh} {f : Nat → Nat → Option (Nat × Nat)} {fr : List AV} {val : Nat → Option Value} (h : FRel G fr val) (hf : RenOk G G2 f) : FRel G2 (AV.renL f fr) val := by
  intro i v c hv hc
  obtain ⟨x, hx, rfl⟩ := renL_get hv
  exact (h i x c hx hc).ren hf

/-- which blocks keep their places -/
def Keeps (gc : Bool) (nL : Nat) : Nat → Prop := fun b => gc = false ∨ b < nL

theorem range_order {nL : Nat} {r : List Nat} {i : Nat} (h : i < nL) : (List.range nL ++ r)[i]? = some i := by
  rw [List.getElem?_append_left (by simpa using h), List.getElem?_range h]

/-- the lent blocks first, then what is kept: places of lent blocks stay -/
theorem pack_step {G : Gh} (hS : StRel G) {nL : Nat} {r : List Nat} {h : Nat → Nat → Nat} (hok : packOk G.H (List.range nL ++ r) h = true) (hnd : (List.range nL ++ r).Nodup) (h0 : ∀ b, h b 0 = 0) (hk : ∀ b g, b < nL → h b g = g) :
    AStep (fun b => b < nL) false G (packG G G.F (List.range nL ++ r) h nL G.H.outer) ∧ RenOk G (packG G G.F (List.range nL ++ r) h nL G.H.outer) (toIdx G.H (List.range nL ++ r) h) := by
  have hkeep : ∀ i o g, i < nL → (List.range nL ++ r)[i]? = some o → h o g = g := by
    intro i o g hi ho
    rw [range_order hi] at ho; cases ho
    exact hk i g hi
  have hl : (pack G.H (List.range nL ++ r) h).length = (List.range nL ++ r).length := by
    simp only [packOk, Bool.and_eq_true, beq_iff_eq] at hok; exact hok.1
  have hF' : ∀ b B, b ∈ List.range nL ++ r → G.ι b = some B → ¬ G.F B := by
    intro b B hb hi
    obtain ⟨i, hi'⟩ := List.getElem?_of_mem hb
    have hil : i < (pack G.H (List.range nL ++ r) h).length := by rw [hl]; exact (List.getElem?_eq_some_iff.1 hi').1
    have hg := pack_get hl i
    rw [hi', heapOf_get, List.getElem?_eq_getElem hil] at hg
    simp only [Option.bind_some] at hg
    cases hx : G.H.get b with
    | none => rw [hx] at hg; simp at hg
    | some x => exact (hS.live hx hi).2
  obtain ⟨h1, h2⟩ := pack_sound (F2 := G.F) (nL := nL) (out := G.H.outer) hS hok hnd h0 hkeep (fun B q => .inl q) hF'
  refine ⟨{
    st := h1, size := Nat.le_refl _, F1 := fun _ q => q, F2 := fun _ q => .inl q, yl := rfl, outer := fun _ => rfl, os := rfl, tape := rfl, output := rfl
    far := fun _ _ _ _ => rfl
    rng := fun b x B hb hi => by
      obtain ⟨o, y, ho, hy, _, hio⟩ := packG_get hl hb
      exact .inl ⟨o, y, hy, hio ▸ hi⟩
    A := fun b g hb ha => .inr ⟨hb, b, range_order hb, ha⟩
    cells := fun b cs' hb ha hc => by
      obtain ⟨o, y, ho, hy, e, hio⟩ := packG_get hl hc
      rw [range_order hb] at ho; cases ho
      obtain ⟨c0, rfl, _⟩ := ABlk.ren_cells_inv e.symm
      exact ⟨c0, hy, hio⟩
    rows := fun b g sz p es' hb ha hc => by
      obtain ⟨o, y, ho, hy, e, hio⟩ := packG_get hl hc
      rw [range_order hb] at ho; cases ho
      obtain ⟨g0, e0, rfl, hg, hes⟩ := ABlk.ren_sl_inv e.symm
      rw [hk b g0 hb] at hg; subst hg
      refine ⟨p, e0, hy, ?_, hio, fun _ _ => Nat.le_refl _⟩
      rcases hes with ⟨_, rfl⟩ | ⟨_, rfl⟩
      · rfl
      · rw [renL_length]
    maps := fun b ks vs hb ha hc => by
      obtain ⟨o, y, ho, hy, e, hio⟩ := packG_get hl hc
      rw [range_order hb] at ho; cases ho
      obtain ⟨k0, v0, rfl, _⟩ := ABlk.ren_map_inv e.symm
      exact ⟨k0, v0, hy, hio⟩
    kind := fun b g sz p es' g1 hb ha hc => by
      obtain ⟨o, y, ho, hy, e, hio⟩ := packG_get hl hc
      rw [range_order hb] at ho; cases ho
      obtain ⟨g0, e0, rfl, hg, hes⟩ := ABlk.ren_sl_inv e.symm
      rw [hk b g0 hb] at hg; subst hg
      exact ⟨g, sz, p, e0, hy, Nat.le_refl _⟩ }, h2⟩

theorem canon_sound {G : Gh} (hS : StRel G) {gc : Bool} {nL : Nat} {keep : List Bool} {fr : List AV} {val : Nat → Option Value} (hfr : FRel G fr val) :
    ∃ G2, G2.w = G.w ∧ AStep (Keeps gc nL) false G G2 ∧ G2.H = (canon gc nL keep fr G.H).2 ∧ FRel G2 (canon gc nL keep fr G.H).1 val := by
  unfold canon
  simp only
  split
  · exact ⟨G, rfl, .refl hS, rfl, hfr.keep keep⟩
  · rename_i hg
    have hgc : gc = true := by simpa using hg
    subst hgc
    split
    · rename_i hok
      obtain ⟨h1, h2⟩ := pack_step hS hok (order_nodup _ _ _) (fun b => by simp only [freshBut]; split <;> rfl) (fun b g hb => by simp only [freshBut, if_pos hb])
      refine ⟨packG G G.F _ (freshBut nL) nL G.H.outer, rfl, h1.mono fun b hb => ?_, rfl, (hfr.keep keep).renL h2⟩
      rcases hb with hb | hb
      · cases hb
      · exact hb
    · exact ⟨G, rfl, .refl hS, rfl, hfr.keep keep⟩

/-- what a call hands back -/
theorem aret_sound {G : Gh} (hS : StRel G) {frzd : Bool} {nL : Nat} {v u : AV} {c : Value} {L : List ABlk} (hv : VRel G v c) (hret : aret frzd nL v G.H = some (u, L)) :
    ∃ G2, G2.w = G.w ∧ AStep (fun b => b < nL) false G G2 ∧ G2.H = { heapOf L with outer := G.H.outer } ∧ VRel G2 u c := by
  have key : ∀ (G1 : Gh) (v' : AV), AStep (fun b => b < nL) false G G1 → G1.w = G.w → VRel G1 v' c →
      (if nL = 0 && v'.refFree then some (v', [])
       else if packOk G1.H (List.range nL ++ (reached G1.H ((List.range nL).map (fun i => AV.hp i 0) ++ [v'])).filter (nL ≤ ·)) keepGen then
        some (v'.ren (toIdx G1.H (List.range nL ++ (reached G1.H ((List.range nL).map (fun i => AV.hp i 0) ++ [v'])).filter (nL ≤ ·)) keepGen), pack G1.H (List.range nL ++ (reached G1.H ((List.range nL).map (fun i => AV.hp i 0) ++ [v'])).filter (nL ≤ ·)) keepGen) else none) = some (u, L) →
      ∃ G2, G2.w = G.w ∧ AStep (fun b => b < nL) false G G2 ∧ G2.H = { heapOf L with outer := G.H.outer } ∧ VRel G2 u c := by
    clear hret
    intro G1 v' hG1 hw hv' h
    have ho := hG1.outer rfl
    split at h
    · rename_i hc
      simp only [Bool.and_eq_true, decide_eq_true_eq] at hc
      obtain ⟨rfl, hf⟩ := hc
      cases h
      obtain ⟨h1, h2⟩ := pack_step (r := []) (nL := 0) (h := keepGen) hG1.st (by simp [packOk, pack]) (by simp) (fun _ => rfl) (fun _ _ _ => rfl)
      refine ⟨packG G1 G1.F _ keepGen 0 G1.H.outer, hw, hG1.trans h1, by rw [← ho]; rfl, ?_⟩
      have := hv'.ren h2
      rwa [AV.ren_free _ _ hf] at this
    · split at h
      · rename_i hok
        cases h
        obtain ⟨h1, h2⟩ := pack_step hG1.st hok (order_nodup _ _ _) (fun _ => rfl) (fun _ _ _ => rfl)
        exact ⟨packG G1 G1.F _ keepGen nL G1.H.outer, hw, hG1.trans h1, by rw [← ho]; rfl, hv'.ren h2⟩
      · cases h
  unfold aret at hret
  simp only at hret
  cases frzd with
  | true =>
    obtain ⟨G1, hL, hw, hH, _, _, hv1⟩ := pFrz_sound (nL := nL) hS hv
    simp only [if_true] at hret
    refine key G1 _ hL.a hw hv1 ?_
    rw [hH]; exact hret
  | false =>
    simp only [Bool.false_eq_true, if_false] at hret
    exact key G v (.refl hS) rfl hv hret
end steps
end Go.Am
namespace Go.Am
section back
variable {P : Program}

def tgt (order : List Nat) (nid j : Nat) : Nat := match order[j]? with | some o => o | none => nid + (j - order.length)
def gmap (H : Heap) (order : List Nat) (j g : Nat) : Nat := match order[j]? with | some o => genOf H o + g | none => g
theorem backMap_eq (H : Heap) (order : List Nat) (nid j g : Nat) : backMap H order nid j g = some (tgt order nid j, gmap H order j g) := by
  unfold backMap tgt gmap; cases order[j]? <;> rfl
theorem putAll_cons (H : Heap) (order : List Nat) (nid : Nat) (x : ABlk) (r : List ABlk) (i : Nat) (acc : Heap) :
    putAll H order nid (x :: r) i acc = putAll H order nid r (i + 1) (acc.put (tgt order nid i) (x.ren (backMap H order nid) (gmap H order i))) := by
  simp only [putAll]
  congr 1
  unfold tgt gmap
  cases order[i]? <;> rfl
theorem putAll_miss {H : Heap} {order : List Nat} {nid b : Nat} : ∀ {l : List ABlk} {i : Nat} {acc : Heap}, (∀ j, i ≤ j → j < i + l.length → tgt order nid j ≠ b) → (putAll H order nid l i acc).get b = acc.get b
  | [], i, acc, _ => rfl
  | x :: r, i, acc, h => by
    rw [putAll_cons, putAll_miss fun j h1 h2 => h j (by omega) (by simp only [List.length_cons]; omega), get_put, if_neg (fun e => h i (Nat.le_refl _) (by simp) e.symm)]
theorem putAll_hit {H : Heap} {order : List Nat} {nid : Nat} : ∀ {l : List ABlk} {i : Nat} {acc : Heap} {j : Nat} {x : ABlk}, (∀ a b, a < i + l.length → b < i + l.length → tgt order nid a = tgt order nid b → a = b) → i ≤ j → l[j - i]? = some x →
    (putAll H order nid l i acc).get (tgt order nid j) = some (x.ren (backMap H order nid) (gmap H order j))
  | [], i, acc, j, x, _, _, h => by simp at h
  | y :: r, i, acc, j, x, hinj, hij, h => by
    rw [putAll_cons]
    rcases Nat.eq_or_lt_of_le hij with rfl | hlt
    · rw [Nat.sub_self] at h; simp at h; subst h
      rw [putAll_miss fun a h1 h2 e => by have := hinj a i (by simp only [List.length_cons]; omega) (by simp) e; omega, get_put, if_pos rfl]
    · exact putAll_hit (fun a b ha hb => hinj a b (by simp only [List.length_cons]; omega) (by simp only [List.length_cons]; omega)) hlt (by rw [show j - i = (j - (i + 1)) + 1 by omega] at h; simpa using h)
theorem putAll_next {H : Heap} {order : List Nat} {nid : Nat} : ∀ {l : List ABlk} {i : Nat} {acc : Heap}, acc.next ≤ (putAll H order nid l i acc).next ∧ ∀ j, i ≤ j → j < i + l.length → tgt order nid j < (putAll H order nid l i acc).next
  | [], i, acc => ⟨Nat.le_refl _, fun j h1 h2 => by simp at h2; omega⟩
  | x :: r, i, acc => by
    rw [putAll_cons]
    obtain ⟨h1, h2⟩ := putAll_next (H := H) (order := order) (nid := nid) (l := r) (i := i + 1) (acc := acc.put (tgt order nid i) (x.ren (backMap H order nid) (gmap H order i)))
    rw [next_put] at h1
    refine ⟨by omega, fun j h3 h4 => ?_⟩
    rcases Nat.eq_or_lt_of_le h3 with rfl | hlt
    · omega
    · exact h2 j hlt (by simp only [List.length_cons] at h4; omega)
theorem putAll_outer {H : Heap} {order : List Nat} {nid : Nat} : ∀ {l : List ABlk} {i : Nat} {acc : Heap}, (putAll H order nid l i acc).outer = acc.outer
  | [], _, _ => rfl
  | x :: r, i, acc => by rw [putAll_cons, putAll_outer]; rfl

mutual
theorem ren_one {f : Nat → Nat → Option (Nat × Nat)} (hf : ∀ b g, f b g ≠ none) : ∀ c : AV, c.one = true → (c.ren f).one = true
  | .undef, h | .agg _, h | .tup _, h => by simp [AV.one] at h
  | .bool _, _ | .int _ _, _ | .str _, _ | .nilp, _ | .nils, _ | .nilm, _ | .nilf, _ | .vs _, _ | .es0, _ | .en, _ | .ip _ _, _ | .fm _ _, _ | .yld, _ | .fn _ _ _, _ => by simp [AV.ren, AV.one]
  | .hp b o, _ => by
    simp only [AV.ren]
    cases e : f b 0 with
    | none => exact absurd e (hf b 0)
    | some q => rfl
  | .hm b, _ => by
    simp only [AV.ren]
    cases e : f b 0 with
    | none => exact absurd e (hf b 0)
    | some q => rfl
  | .hs b g, _ => by
    simp only [AV.ren]
    cases e : f b g with
    | none => exact absurd e (hf b g)
    | some q => rfl
  | .hq b g o n, _ => by
    simp only [AV.ren]
    cases e : f b g with
    | none => exact absurd e (hf b g)
    | some q => rfl
  | .he b g i o, _ => by
    simp only [AV.ren]
    cases e : f b g with
    | none => exact absurd e (hf b g)
    | some q => rfl
end

/-- the foreign blocks of a callee: what is foreign already, and what it is not lent -/
def foreign (G : Gh) (order : List Nat) : Nat → Prop := fun B => G.F B ∨ ∃ b x, b ∉ order ∧ G.H.get b = some x ∧ G.ι b = some B
/-- the caller's state behind the call -/
def backG (G G1 : Gh) (order : List Nat) (nid : Nat) (L : List ABlk) : Gh :=
  { w := G1.w, F := G.F, yl := G.yl, H := putAll G.H order nid L 0 G.H
    ι := fun b => match order.idxOf? b with
      | some i => G1.ι i
      | none => if nid ≤ b ∧ b < nid + 8 then G1.ι (order.length + (b - nid)) else G.ι b
    A := fun b g => G.A b g ∨ ∃ j g1, j < L.length ∧ G1.A j g1 ∧ tgt order nid j = b ∧ (g = gmap G.H order j g1 ∨ g = 0) }

theorem back_sound {G G1 : Gh} {order : List Nat} {nid : Nat} {L : List ABlk} (hS : StRel G) (hnd : order.Nodup) (hord : ∀ b, b ∈ order → ∃ x, G.H.get b = some x) (hA : Fresh G nid)
    (hok : packOk G.H order fresh0 = true) (hst : AStep (fun b => b < order.length) false (packG G (foreign G order) order fresh0 0 []) G1) (hH : G1.H = { heapOf L with outer := [] }) (hlo : order.length ≤ L.length) (hhi : L.length ≤ order.length + 8) :
    AStep (fun _ => True) false G (backG G G1 order nid L) ∧ RenOk G1 (backG G G1 order nid L) (backMap G.H order nid) ∧ (∀ b g, (backG G G1 order nid L).A b g → (∃ g', G.A b g') ∨ (nid ≤ b ∧ b < nid + 8)) := by
  have hl : (pack G.H order fresh0).length = order.length := by
    simp only [packOk, Bool.and_eq_true, beq_iff_eq] at hok; exact hok.1
  have h1get : ∀ j, G1.H.get j = L[j]? := fun j => by rw [hH]; exact heapOf_get L j
  have hmem : ∀ {j o : Nat}, order[j]? = some o → o ∈ order := fun h => List.mem_of_getElem? h
  have hnotin : ∀ o, o ∈ order → ¬ (nid ≤ o ∧ o < nid + 8) := by
    intro o ho q
    obtain ⟨x, hx⟩ := hord o ho
    exact hA o _ q.1 q.2 (hS.here o x hx)
  have htgt1 : ∀ {j o : Nat}, order[j]? = some o → tgt order nid j = o := fun h => by simp [tgt, h]
  have htgt2 : ∀ {j : Nat}, order.length ≤ j → tgt order nid j = nid + (j - order.length) := fun h => by simp [tgt, List.getElem?_eq_none h]
  have hinj : ∀ a b, a < L.length → b < L.length → tgt order nid a = tgt order nid b → a = b := by
    intro a b ha hb e
    by_cases h1 : a < order.length
    · have ga := List.getElem?_eq_getElem h1
      rw [htgt1 ga] at e
      by_cases h2 : b < order.length
      · have gb := List.getElem?_eq_getElem h2
        rw [htgt1 gb] at e
        exact nodup_idx hnd ga (e ▸ gb)
      · rw [htgt2 (by omega)] at e
        exact absurd ⟨by omega, by omega⟩ (hnotin _ (hmem ga))
    · rw [htgt2 (by omega)] at e
      by_cases h2 : b < order.length
      · have gb := List.getElem?_eq_getElem h2
        rw [htgt1 gb] at e
        exact absurd ⟨by omega, by omega⟩ (hnotin _ (hmem gb))
      · rw [htgt2 (by omega)] at e; omega
  have hhit : ∀ {j : Nat} {y : ABlk}, L[j]? = some y → (backG G G1 order nid L).H.get (tgt order nid j) = some (y.ren (backMap G.H order nid) (gmap G.H order j)) := by
    intro j y hy
    exact putAll_hit (i := 0) (fun a b ha hb => hinj a b (by omega) (by omega)) (Nat.zero_le _) (by simpa using hy)
  have hmiss : ∀ {b : Nat}, (∀ j, j < L.length → tgt order nid j ≠ b) → (backG G G1 order nid L).H.get b = G.H.get b := by
    intro b h
    exact putAll_miss fun j _ h2 => h j (by omega)
  -- each block: one that the call has handed back, or one that it was not lent
  have hcase : ∀ {b : Nat} {x : ABlk}, (backG G G1 order nid L).H.get b = some x →
      (∃ j y, L[j]? = some y ∧ G1.H.get j = some y ∧ tgt order nid j = b ∧ x = y.ren (backMap G.H order nid) (gmap G.H order j)) ∨ (b ∉ order ∧ (∀ j, j < L.length → tgt order nid j ≠ b) ∧ G.H.get b = some x) := by
    intro b x hx
    by_cases h : ∃ j, j < L.length ∧ tgt order nid j = b
    · obtain ⟨j, hj, rfl⟩ := h
      have hy := List.getElem?_eq_getElem hj
      rw [hhit hy] at hx; cases hx
      exact .inl ⟨j, _, hy, by rw [h1get, hy], rfl, rfl⟩
    · have hn : ∀ j, j < L.length → tgt order nid j ≠ b := fun j hj e => h ⟨j, hj, e⟩
      rw [hmiss hn] at hx
      refine .inr ⟨fun hb => ?_, hn, hx⟩
      obtain ⟨j, hj⟩ := List.getElem?_of_mem hb
      exact hn j (by have := (List.getElem?_eq_some_iff.1 hj).1; omega) (htgt1 hj)
  have hι1 : ∀ {j : Nat}, j < L.length → (backG G G1 order nid L).ι (tgt order nid j) = G1.ι j := by
    intro j hj
    by_cases h1 : j < order.length
    · have gj := List.getElem?_eq_getElem h1
      rw [htgt1 gj]
      have : order.idxOf? (order[j]) = some j := by
        cases e : order.idxOf? (order[j]) with
        | none => rw [List.idxOf?_eq_none_iff] at e; exact absurd (List.getElem_mem h1) e
        | some k => rw [nodup_idx hnd (idxOf_some e) gj]
      simp only [backG, this]
    · rw [htgt2 (by omega)]
      have : order.idxOf? (nid + (j - order.length)) = none := by
        rw [List.idxOf?_eq_none_iff]
        exact fun q => hnotin _ q ⟨by omega, by omega⟩
      simp only [backG, this]
      rw [if_pos ⟨by omega, by omega⟩]
      congr 1; omega
  have hι2 : ∀ {b : Nat}, b ∉ order → (∃ g, G.A b g) → (backG G G1 order nid L).ι b = G.ι b := by
    intro b hb ⟨g, hg⟩
    have : order.idxOf? b = none := by rw [List.idxOf?_eq_none_iff]; exact hb
    simp only [backG, this]
    rw [if_neg fun q => hA b g q.1 q.2 hg]
  -- what the callee began with
  have hb0 : ∀ {j o : Nat} {x : ABlk}, order[j]? = some o → G.H.get o = some x → (packG G (foreign G order) order fresh0 0 []).H.get j = some (x.ren (toIdx G.H order fresh0) (fresh0 o)) ∧ (packG G (foreign G order) order fresh0 0 []).A j 0 := by
    intro j o x hj hx
    have hg : (heapOf (pack G.H order fresh0)).get j = some (x.ren (toIdx G.H order fresh0) (fresh0 o)) := by rw [pack_get hl, hj]; simp [hx]
    exact ⟨hg, .inl ⟨_, hg, by rw [ABlk.ren_gen]; rfl; rfl⟩⟩
  have hsize : G.w.heap.size ≤ G1.w.heap.size := hst.size
  have hFF : ∀ B, G.F B → G1.F B := fun B q => hst.F1 B (.inl q)
  have hforeign : ∀ {b : Nat} {x : ABlk} {B : Nat}, b ∉ order → G.H.get b = some x → G.ι b = some B → G1.F B := fun hb hx hi => hst.F1 _ (.inr ⟨_, _, hb, hx, hi⟩)
  have hfar : ∀ B, B < G.w.heap.size → (∀ o x, o ∈ order → G.H.get o = some x → G.ι o ≠ some B) → G1.w.heap[B]? = G.w.heap[B]? := by
    intro B hB hn
    refine hst.far B hB (fun b x hb hi => ?_) (.inl rfl)
    obtain ⟨o, y, ho, hy, _, hio⟩ := packG_get hl hb
    exact hn o y (hmem ho) hy (hio ▸ hi)
  have hfar' : ∀ {b : Nat} {x : ABlk} {B : Nat}, b ∉ order → G.H.get b = some x → G.ι b = some B → G1.w.heap[B]? = G.w.heap[B]? := by
    intro b x B hb hx hi
    refine hfar B (hS.live hx hi).1 fun o y ho hy hio => ?_
    have := hS.inj b o x y B hx hy hi hio
    subst this; exact hb ho
  have hnew : ∀ {j : Nat} {g : Nat}, order.length ≤ j → j < L.length → ¬ G.A (tgt order nid j) g := by
    intro j g h1 h2 ha
    rw [htgt2 h1] at ha
    exact hA _ g (by omega) (by omega) ha
  -- kinds of lent rows
  have hlentK : ∀ {j g0 sz : Nat} {p : Bool} {e0 : List AV}, j < order.length → G1.H.get j = some (.sl g0 sz p e0) → ∃ γ sz2 p2 e2, G.H.get (tgt order nid j) = some (.sl γ sz2 p2 e2) ∧ gmap G.H order j g0 = γ + g0 := by
    intro j g0 sz p e0 hj h1
    have gj := List.getElem?_eq_getElem hj
    obtain ⟨x, hx⟩ := hord _ (hmem gj)
    obtain ⟨g2, sz2, p2, e2, hg2, _⟩ := hst.kind j g0 sz p e0 0 hj (hb0 gj hx).2 h1
    obtain ⟨o', y', ho', hy', e', _⟩ := packG_get hl hg2
    rw [gj] at ho'; cases ho'
    obtain ⟨γ, e3, rfl, _, _⟩ := ABlk.ren_sl_inv e'.symm
    refine ⟨γ, sz2, p2, e3, by rw [htgt1 gj]; exact hy', ?_⟩
    simp [gmap, gj, genOf, hy', ABlk.gen]
  have hcells : ∀ b cs', G.A b 0 → (backG G G1 order nid L).H.get b = some (.cells cs') → ∃ cs, G.H.get b = some (.cells cs) ∧ (backG G G1 order nid L).ι b = G.ι b := by
    intro b cs' ha hx
    rcases hcase hx with ⟨j, y, hy, h1, rfl, e⟩ | ⟨hb, _, hx⟩
    · obtain ⟨c0, rfl, _⟩ := ABlk.ren_cells_inv e.symm
      have hjl := (List.getElem?_eq_some_iff.1 hy).1
      by_cases hj : j < order.length
      · have gj := List.getElem?_eq_getElem hj
        obtain ⟨x, hx⟩ := hord _ (hmem gj)
        obtain ⟨cs, hc, hi⟩ := hst.cells j c0 hj (hb0 gj hx).2 h1
        obtain ⟨o', y', ho', hy', e', hio⟩ := packG_get hl hc
        rw [gj] at ho'; cases ho'
        obtain ⟨c1, rfl, _⟩ := ABlk.ren_cells_inv e'.symm
        rw [hι1 hjl, htgt1 gj]
        exact ⟨c1, hy', hi.trans hio⟩
      · exact absurd ha (hnew (by omega) hjl)
    · exact ⟨cs', hx, hι2 hb ⟨_, ha⟩⟩
  have hmaps : ∀ b ks vs, G.A b 0 → (backG G G1 order nid L).H.get b = some (.map ks vs) → ∃ ks0 vs0, G.H.get b = some (.map ks0 vs0) ∧ (backG G G1 order nid L).ι b = G.ι b := by
    intro b ks vs ha hx
    rcases hcase hx with ⟨j, y, hy, h1, rfl, e⟩ | ⟨hb, _, hx⟩
    · obtain ⟨k0, v0, rfl, _⟩ := ABlk.ren_map_inv e.symm
      have hjl := (List.getElem?_eq_some_iff.1 hy).1
      by_cases hj : j < order.length
      · have gj := List.getElem?_eq_getElem hj
        obtain ⟨x, hx⟩ := hord _ (hmem gj)
        obtain ⟨k1, v1, hc, hi⟩ := hst.maps j k0 v0 hj (hb0 gj hx).2 h1
        obtain ⟨o', y', ho', hy', e', hio⟩ := packG_get hl hc
        rw [gj] at ho'; cases ho'
        obtain ⟨k2, v2, rfl, _⟩ := ABlk.ren_map_inv e'.symm
        rw [hι1 hjl, htgt1 gj]
        exact ⟨k2, v2, hy', hi.trans hio⟩
      · exact absurd ha (hnew (by omega) hjl)
    · exact ⟨ks, vs, hx, hι2 hb ⟨_, ha⟩⟩
  have hrows : ∀ b g sz p es', G.A b g → (backG G G1 order nid L).H.get b = some (.sl g sz p es') →
      ∃ p0 es, G.H.get b = some (.sl g sz p0 es) ∧ es.length = es'.length ∧ (backG G G1 order nid L).ι b = G.ι b ∧ ∀ B, G.ι b = some B → bsz G.w B ≤ bsz (backG G G1 order nid L).w B := by
    intro b g sz p es' ha hx
    rcases hcase hx with ⟨j, y, hy, h1, rfl, e⟩ | ⟨hb, _, hx⟩
    · obtain ⟨g0, e0, rfl, hg, hes⟩ := ABlk.ren_sl_inv e.symm
      have hjl := (List.getElem?_eq_some_iff.1 hy).1
      by_cases hj : j < order.length
      · have gj := List.getElem?_eq_getElem hj
        obtain ⟨x, hx⟩ := hord _ (hmem gj)
        obtain ⟨γ, sz2, p2, e2, hγ, hgm⟩ := hlentK hj h1
        have hle := hS.gen _ _ _ _ _ _ hγ ha
        have h0 : g0 = 0 := by omega
        subst h0
        obtain ⟨p0, es1, hc, hlen, hi, hbs⟩ := hst.rows j 0 sz p e0 hj (hb0 gj hx).2 h1
        obtain ⟨o', y', ho', hy', e', hio⟩ := packG_get hl hc
        rw [gj] at ho'; cases ho'
        obtain ⟨g3, e3, rfl, _, hes3⟩ := ABlk.ren_sl_inv e'.symm
        rw [htgt1 gj] at hγ
        rw [hy'] at hγ; cases hγ
        rw [hι1 hjl, htgt1 gj]
        refine ⟨p2, e2, by rw [hg, hgm, Nat.add_zero]; exact hy', ?_, hi.trans hio, fun B hB => hbs B (hio.trans hB)⟩
        have l1 : es1.length = e2.length := by rcases hes3 with ⟨_, rfl⟩ | ⟨_, rfl⟩ <;> simp [renL_length]
        have l2 : es'.length = e0.length := by rcases hes with ⟨_, rfl⟩ | ⟨_, rfl⟩ <;> simp [renL_length]
        omega
      · exact absurd ha (hnew (by omega) hjl)
    · refine ⟨p, es', hx, rfl, hι2 hb ⟨_, ha⟩, fun B hB => ?_⟩
      show bsz G.w B ≤ bsz G1.w B
      simp only [bsz, hfar' hb hx hB]; exact Nat.le_refl _
  have hkind : ∀ b g sz p es' g1, G.A b g1 → (backG G G1 order nid L).H.get b = some (.sl g sz p es') → ∃ g0 sz0 p0 es, G.H.get b = some (.sl g0 sz0 p0 es) ∧ g0 ≤ g := by
    intro b g sz p es' g1 ha hx
    rcases hcase hx with ⟨j, y, hy, h1, rfl, e⟩ | ⟨hb, _, hx⟩
    · obtain ⟨g0, e0, rfl, hg, hes⟩ := ABlk.ren_sl_inv e.symm
      have hjl := (List.getElem?_eq_some_iff.1 hy).1
      by_cases hj : j < order.length
      · obtain ⟨γ, sz2, p2, e2, hγ, hgm⟩ := hlentK hj h1
        exact ⟨γ, sz2, p2, e2, hγ, by omega⟩
      · exact absurd ha (hnew (by omega) hjl)
    · exact ⟨g, sz, p, es', hx, Nat.le_refl _⟩
  have hrng : ∀ b x B, (backG G G1 order nid L).H.get b = some x → (backG G G1 order nid L).ι b = some B → (∃ b0 x0, G.H.get b0 = some x0 ∧ G.ι b0 = some B) ∨ G.w.heap.size ≤ B := by
    intro b x B hx hi
    rcases hcase hx with ⟨j, y, hy, h1, rfl, e⟩ | ⟨hb, _, hx⟩
    · rw [hι1 (List.getElem?_eq_some_iff.1 hy).1] at hi
      rcases hst.rng j y B h1 hi with ⟨b0, x0, h2, h3⟩ | h2
      · obtain ⟨o', y', ho', hy', _, hio⟩ := packG_get hl h2
        exact .inl ⟨o', y', hy', hio ▸ h3⟩
      · exact .inr h2
    · rw [hι2 hb ⟨_, hS.here b x hx⟩] at hi
      exact .inl ⟨b, x, hx, hi⟩
  have hfarG : ∀ B, B < G.w.heap.size → (∀ b x, G.H.get b = some x → G.ι b ≠ some B) → G1.w.heap[B]? = G.w.heap[B]? := fun B hB hn => hfar B hB fun o x _ hx => hn o x hx
  have hext : Ext G (backG G G1 order nid L) := {
    size := hsize
    still := still_of rfl hfarG hrng
    next := by rintro b g b' g' ha he; cases he; exact .inl ha
    cells := by rintro b b' g' cs' ha he h; cases he; exact hcells _ _ ha h
    rows := by rintro b g b' g' sz p es' ha he h; cases he; exact hrows _ _ _ _ _ ha h
    maps := by rintro b b' g' ks vs ha he h; cases he; exact hmaps _ _ _ ha h
    yl := .inr rfl
    zero := by rintro b b' g' ha he; cases he; exact fun h => h }
  have hjlt : ∀ {j g : Nat}, G1.A j g → j < L.length := by
    intro j g ha
    have := hst.st.next j g ha
    rw [hH] at this; exact this
  have hbm : ∀ {j g b' g' : Nat}, backMap G.H order nid j g = some (b', g') → b' = tgt order nid j ∧ g' = gmap G.H order j g := by
    intro j g b' g' e
    rw [backMap_eq] at e; cases e; exact ⟨rfl, rfl⟩
  have hget : ∀ {j : Nat} {x : ABlk}, j < L.length → (backG G G1 order nid L).H.get (tgt order nid j) = some x → ∃ y, G1.H.get j = some y ∧ x = y.ren (backMap G.H order nid) (gmap G.H order j) := by
    intro j x hj hx
    have hy := List.getElem?_eq_getElem hj
    rw [hhit hy] at hx; cases hx
    exact ⟨_, by rw [h1get, hy], rfl⟩
  have hgcancel : ∀ {j a b : Nat}, gmap G.H order j a = gmap G.H order j b → a = b := by
    intro j a b e
    unfold gmap at e
    cases h : order[j]? with
    | none => rw [h] at e; exact e
    | some o => rw [h] at e; simp only at e; omega
  have hgmono : ∀ {j a b : Nat}, a ≤ b → gmap G.H order j a ≤ gmap G.H order j b := by
    intro j a b e
    unfold gmap
    cases h : order[j]? with
    | none => exact e
    | some o => simp only; omega
  have hren : RenOk G1 (backG G G1 order nid L) (backMap G.H order nid) := {
    size := Nat.le_refl _
    still := fun B hB hM => ⟨fun q => hM (by
      rcases q with q | ⟨b, x, hx, hi⟩
      · exact .inl (hFF B q)
      · rcases hcase hx with ⟨j, y, hy, h1, rfl, e⟩ | ⟨hb, _, hx⟩
        · rw [hι1 (List.getElem?_eq_some_iff.1 hy).1] at hi
          exact .inr ⟨j, y, h1, hi⟩
        · rw [hι2 hb ⟨_, hS.here b x hx⟩] at hi
          exact .inl (hforeign hb hx hi)), rfl⟩
    next := fun j g b' g' ha e => by
      obtain ⟨rfl, rfl⟩ := hbm e
      exact .inr ⟨j, g, hjlt ha, ha, rfl, .inl rfl⟩
    cells := fun j b' g' cs' ha e hx => by
      obtain ⟨rfl, _⟩ := hbm e
      obtain ⟨y, hy, e2⟩ := hget (hjlt ha) hx
      obtain ⟨c0, rfl, _⟩ := ABlk.ren_cells_inv e2.symm
      exact ⟨c0, hy, hι1 (hjlt ha)⟩
    rows := fun j g b' g' sz p es' ha e hx => by
      obtain ⟨rfl, rfl⟩ := hbm e
      obtain ⟨y, hy, e2⟩ := hget (hjlt ha) hx
      obtain ⟨g0, e0, rfl, hg, hes⟩ := ABlk.ren_sl_inv e2.symm
      have := hgcancel hg
      subst this
      refine ⟨p, e0, hy, ?_, hι1 (hjlt ha), fun _ _ => Nat.le_refl _⟩
      rcases hes with ⟨_, rfl⟩ | ⟨_, rfl⟩ <;> simp [renL_length]
    maps := fun j b' g' ks vs ha e hx => by
      obtain ⟨rfl, _⟩ := hbm e
      obtain ⟨y, hy, e2⟩ := hget (hjlt ha) hx
      obtain ⟨k0, v0, rfl, _⟩ := ABlk.ren_map_inv e2.symm
      exact ⟨k0, v0, hy, hι1 (hjlt ha)⟩
    yl := .inr hst.yl.symm
    zero := fun j b' g' ha e _ => by
      obtain ⟨rfl, _⟩ := hbm e
      exact .inr ⟨j, 0, hjlt ha, ha, rfl, .inr rfl⟩ }
  have hstr : StRel (backG G G1 order nid L) := {
    next := fun b g ha => by
      have hn := putAll_next (H := G.H) (order := order) (nid := nid) (l := L) (i := 0) (acc := G.H)
      rcases ha with ha | ⟨j, g1, hj, _, rfl, _⟩
      · exact Nat.lt_of_lt_of_le (hS.next b g ha) hn.1
      · exact hn.2 j (Nat.zero_le _) (by omega)
    here := fun b x hx => by
      rcases hcase hx with ⟨j, y, hy, h1, rfl, rfl⟩ | ⟨hb, _, hx⟩
      · refine .inr ⟨j, y.gen, (List.getElem?_eq_some_iff.1 hy).1, hst.st.here j y h1, rfl, ?_⟩
        cases y with
        | cells cs => exact .inr rfl
        | sl g sz p es => cases p <;> exact .inl rfl
        | map ks vs => exact .inr rfl
      · exact .inl (hS.here b x hx)
    gen := fun b g sz p es g' hx ha => by
      rcases hcase hx with ⟨j, y, hy, h1, rfl, e⟩ | ⟨hb, hn, hx⟩
      · obtain ⟨g0, e0, rfl, hg, _⟩ := ABlk.ren_sl_inv e.symm
        have hjl := (List.getElem?_eq_some_iff.1 hy).1
        rcases ha with ha | ⟨j', g1, hj', ha, ht, hgg⟩
        · by_cases hj : j < order.length
          · obtain ⟨γ, sz2, p2, e2, hγ, hgm⟩ := hlentK hj h1
            have := hS.gen _ _ _ _ _ _ hγ ha
            omega
          · exact absurd ha (hnew (by omega) hjl)
        · have := hinj j' j hj' hjl ht
          subst this
          rcases hgg with rfl | rfl
          · rw [hg]; exact hgmono (hst.st.gen _ _ _ _ _ _ h1 ha)
          · exact Nat.zero_le _
      · rcases ha with ha | ⟨j', g1, hj', _, ht, _⟩
        · exact hS.gen b g sz p es g' hx ha
        · exact absurd ht (hn j' hj')
    blk := fun b x hx => by
      rcases hcase hx with ⟨j, y, hy, h1, rfl, rfl⟩ | ⟨hb, hn, hx⟩
      · have hbl := hst.st.blk j y h1
        refine hbl.ren hren (fun _ _ => rfl) (hι1 (List.getElem?_eq_some_iff.1 hy).1) (fun B hB q => (hst.st.live h1 hB).2 (hFF B q)) ?_
        cases y with
        | cells cs => rfl
        | map ks vs => rfl
        | sl g sz p es =>
          cases p with
          | true => rfl
          | false =>
            obtain ⟨⟨_, hrow⟩, _⟩ := hbl
            simp only [ABlk.ren, ABlk.okRow, List.all_eq_true]
            intro e he c hc
            obtain ⟨k, hk⟩ := List.getElem?_of_mem he
            obtain ⟨e0, he0, rfl⟩ := renL_get hk
            rw [ren_cells, List.mem_map] at hc
            obtain ⟨c0, hc0, rfl⟩ := hc
            exact ren_one (fun b g => by rw [backMap_eq]; simp) c0 ((hrow k e0 he0).2.1 c0 hc0)
      · exact (hS.blk b x hx).mv hext (hι2 hb ⟨_, hS.here b x hx⟩) (fun _ _ _ h => h) fun B hB _ => hfar' hb hx hB
    inj := fun b b' x x' B hx hx' hi hi' => by
      rcases hcase hx with ⟨j, y, hy, h1, rfl, _⟩ | ⟨hb, hn, hx⟩ <;> rcases hcase hx' with ⟨j', y', hy', h1', rfl, _⟩ | ⟨hb', hn', hx'⟩
      · rw [hι1 (List.getElem?_eq_some_iff.1 hy).1] at hi
        rw [hι1 (List.getElem?_eq_some_iff.1 hy').1] at hi'
        rw [hst.st.inj j j' y y' B h1 h1' hi hi']
      · rw [hι1 (List.getElem?_eq_some_iff.1 hy).1] at hi
        rw [hι2 hb' ⟨_, hS.here b' x' hx'⟩] at hi'
        exact absurd (hforeign hb' hx' hi') (hst.st.live h1 hi).2
      · rw [hι1 (List.getElem?_eq_some_iff.1 hy').1] at hi'
        rw [hι2 hb ⟨_, hS.here b x hx⟩] at hi
        exact absurd (hforeign hb hx hi) (hst.st.live h1' hi').2
      · rw [hι2 hb ⟨_, hS.here b x hx⟩] at hi
        rw [hι2 hb' ⟨_, hS.here b' x' hx'⟩] at hi'
        exact hS.inj b b' x x' B hx hx' hi hi'
    low := fun B q => Nat.lt_of_lt_of_le (hS.low B q) hsize }
  refine ⟨{
    st := hstr, size := hsize, F1 := fun _ q => q, F2 := fun _ q => .inl q, yl := rfl, outer := fun _ => putAll_outer, os := hst.os, tape := hst.tape, output := hst.output
    far := fun B hB hn _ => hfarG B hB hn
    rng := hrng
    A := fun b g _ ha => .inl ha
    cells := fun b cs' _ => hcells b cs'
    rows := fun b g sz p es' _ => hrows b g sz p es'
    maps := fun b ks vs _ => hmaps b ks vs
    kind := fun b g sz p es' g1 _ => hkind b g sz p es' g1 }, hren, ?_⟩
  rintro b g (ha | ⟨j, g1, hj, _, rfl, _⟩)
  · exact .inl ⟨g, ha⟩
  · by_cases h1 : j < order.length
    · have gj := List.getElem?_eq_getElem h1
      obtain ⟨x, hx⟩ := hord _ (hmem gj)
      rw [htgt1 gj]
      exact .inl ⟨_, hS.here _ _ hx⟩
    · rw [htgt2 (by omega)]
      exact .inr ⟨by omega, by omega⟩
end back
end Go.Am
namespace Go.Am
section call
variable {P : Program} {G : Gh}

/-- arguments -/
def ArgsRel (G : Gh) (args : List AV) (cargs : Array Value) : Prop := args.length = cargs.size ∧ ∀ (i : Nat) a c, args[i]? = some a → cargs[i]? = some c → VRel G a c
/-- there is code behind the name -/
def HasCode (P : Program) (f : FuncId) : Prop := ∃ fn, P.funcs[f]? = some fn ∧ (fn.name == "runtime.NumGoroutine") = false ∧ fn.body.isSome = true
/-- what the machine says of calls is true -/
def CallSpec (P : Program) (call : CallFn) : Prop := ∀ f args L v L', call f args L = some (v, L') → HasCode P f ∧
  ∀ (G0 : Gh) (cargs : Array Value), StRel G0 → G0.H = { heapOf L with outer := [] } → ArgsRel G0 args cargs →
    CallsIn Fence.wide 0 P f cargs G0.w fun e w' => ∃ cv G1, e = .returned cv ∧ G1.w = w' ∧ AStep (fun b => b < L.length) false G0 G1 ∧ G1.H = { heapOf L' with outer := [] } ∧ VRel G1 v cv

theorem packOk_some {H : Heap} {order : List Nat} {h : Nat → Nat → Nat} (hok : packOk H order h = true) : ∀ b, b ∈ order → ∃ x, H.get b = some x := by
  intro b hb
  have hl : (pack H order h).length = order.length := by
    simp only [packOk, Bool.and_eq_true, beq_iff_eq] at hok; exact hok.1
  obtain ⟨i, hi'⟩ := List.getElem?_of_mem hb
  have hil : i < (pack H order h).length := by rw [hl]; exact (List.getElem?_eq_some_iff.1 hi').1
  have hg := pack_get hl i
  rw [hi', heapOf_get, List.getElem?_eq_getElem hil] at hg
  simp only [Option.bind_some] at hg
  cases hx : H.get b with
  | none => rw [hx] at hg; simp at hg
  | some x => exact ⟨x, rfl⟩
theorem foreign_M (B : Nat) {order : List Nat} (h : foreign G order B) : G.M B := by
  rcases h with h | ⟨b, x, _, hb, hi⟩
  · exact .inl h
  · exact .inr ⟨b, x, hb, hi⟩
theorem start_sound (hS : StRel G) {order : List Nat} (hok : packOk G.H order fresh0 = true) (hnd : order.Nodup) :
    StRel (packG G (foreign G order) order fresh0 0 []) ∧ RenOk G (packG G (foreign G order) order fresh0 0 []) (toIdx G.H order fresh0) := by
  refine pack_sound hS hok hnd (fun _ => rfl) (fun i _ _ hi _ => by omega) (fun B q => foreign_M B q) fun b B hb hi q => ?_
  obtain ⟨x, hx⟩ := packOk_some hok b hb
  rcases q with q | ⟨b', x', hb', hx', hi'⟩
  · exact (hS.live hx hi).2 q
  · have := hS.inj b b' x x' B hx hx' hi hi'
    subst this; exact hb' hb

/-- the state behind a call -/
def CallEnd (G : Gh) (nid : Nat) (v : AV) (H' : Heap) (e : Ending) (w' : World) : Prop :=
  ∃ cv G2, e = .returned cv ∧ G2.w = w' ∧ AStep (fun _ => True) false G G2 ∧ G2.H = H' ∧ VRel G2 v cv ∧ ∀ b g, G2.A b g → (∃ g', G.A b g') ∨ (nid ≤ b ∧ b < nid + 8)

theorem lent_sound {call : CallFn} (hc : CallSpec P call) {f : FuncId} {args : List AV} {cargs : Array Value} {order : List Nat} {nid : Nat} {v : AV} {L' : List ABlk} (hS : StRel G) (hA : Fresh G nid) (hok : packOk G.H order fresh0 = true) (hnd : order.Nodup)
    (ha : ArgsRel G args cargs) (h : call f (AV.renL (toIdx G.H order fresh0) args) (pack G.H order fresh0) = some (v, L')) (hlo : order.length ≤ L'.length) (hhi : L'.length ≤ order.length + 8) :
    CallsIn Fence.wide 0 P f cargs G.w (CallEnd G nid (v.ren (backMap G.H order nid)) (putAll G.H order nid L' 0 G.H)) := by
  obtain ⟨h1, h2⟩ := start_sound hS hok hnd
  have hl : (pack G.H order fresh0).length = order.length := by
    simp only [packOk, Bool.and_eq_true, beq_iff_eq] at hok; exact hok.1
  refine ((hc _ _ _ _ _ h).2 (packG G (foreign G order) order fresh0 0 []) cargs h1 rfl ⟨by rw [renL_length]; exact ha.1, fun i a c hi hc => ?_⟩).mono ?_
  · obtain ⟨a0, ha0, rfl⟩ := renL_get hi
    exact (ha.2 i a0 c ha0 hc).ren h2
  · rintro e w' ⟨cv, G1, rfl, rfl, hst, hH, hv⟩
    rw [hl] at hst
    obtain ⟨b1, b2, b3⟩ := back_sound hS hnd (packOk_some hok) hA hok hst hH hlo hhi
    exact ⟨cv, backG G G1 order nid L', rfl, rfl, b1, rfl, hv.ren b2, b3⟩

/-! ### rows lent as trees -/
theorem scalar1_rel {G2 : Gh} {a : AV} {c : Value} (h : VRel G a c) (hs : a.scalar1 = true) : VRel G2 a c := by
  cases h <;> first | (simp [AV.scalar1] at hs; done) | constructor
theorem scalar1_refs {a : AV} (hs : a.scalar1 = true) : a.refFree = true := by cases a <;> simp_all [AV.scalar1, AV.refFree]
/-- the same state, but for what is foreign -/
def withF (G : Gh) (F : Nat → Prop) : Gh := { G with F := F }
theorem own_rel {F : Nat → Prop} {a : AV} {c : Value} (h : VRel G a c) (ho : a.own = true) : VRel (withF G F) a c := by
  cases h with
  | hs b g v hb h1 h => exact .hs b g _ hb h1 h
  | hp b off v hb h1 h => exact .hp b off _ hb h1 h
  | nils => exact .nils
  | tup cs vs hl hr =>
    refine .tup cs vs hl fun i c v hc hv => scalar1_rel (hr i c v hc hv) ?_
    simp only [AV.own, AV.scalar, List.all_eq_true] at ho
    exact ho c (List.mem_of_getElem? hc)
  | bool b => exact .bool b
  | int k n => exact .int k n
  | str s => exact .str s
  | _ => simp [AV.own, AV.scalar, AV.scalar1] at ho
theorem flat_F {F : Nat → Prop} (hS : StRel G) (hfl : ∀ b x, G.H.get b = some x → x.flat = true) (hF : ∀ b x B, G.H.get b = some x → G.ι b = some B → ¬ F B) (hlow : ∀ B, F B → B < G.w.heap.size) : StRel (withF G F) where
  next := hS.next
  here := hS.here
  gen := hS.gen
  inj := hS.inj
  low := hlow
  blk b x hb := by
    have h := hS.blk b x hb
    have hf := hfl b x hb
    cases x with
    | map ks vs => simp [ABlk.flat] at hf
    | cells cs =>
      obtain ⟨B, h1, h2, h3, c, e, h4, h5, h6⟩ := h
      simp only [ABlk.flat, List.all_eq_true] at hf
      exact ⟨B, h1, h2, hF b _ B hb h1, c, e, h4, h5, fun j x v hj hv => scalar1_rel (h6 j x v hj hv) (hf x (List.mem_of_getElem? hj))⟩
    | sl g sz p es =>
      obtain ⟨h0, h⟩ := h
      refine ⟨h0, h.imp id fun ⟨B, h1, h2, h3, c, e, h4, h5, h6⟩ => ⟨B, h1, h2, hF b _ B hb h1, c, e, h4, h5, fun i x j y v hi hj hv => scalar1_rel (h6 i x j y v hi hj hv) ?_⟩⟩
      simp only [ABlk.flat, List.all_eq_true, AV.flat] at hf
      exact hf x (List.mem_of_getElem? hi) y (List.mem_of_getElem? hj)

/-- blocks whose rows are lent as trees -/
def Lent (G : Gh) (args : List AV) : Nat → Prop := fun B => ∃ a, a ∈ args ∧ ∃ b, b ∈ a.refs ∧ G.ι b = some B ∧ ∃ x, G.H.get b = some x
def lendG (G : Gh) (args : List AV) : Gh := { w := G.w, F := fun B => G.M B ∧ ¬ Lent G args B, ι := fun _ => none, A := fun _ _ => False, H := { heapOf [] with outer := [] }, yl := G.yl }
theorem heapOf_nil (b : Nat) : (heapOf []).get b = none := by rw [heapOf_get]; simp
theorem lendG_get {args : List AV} {b : Nat} {x : ABlk} : (lendG G args).H.get b ≠ some x := by
  intro h
  have : (heapOf []).get b = some x := h
  rw [heapOf_nil] at this; cases this
theorem lendG_M {args : List AV} {B : Nat} (h : (lendG G args).M B) : G.M B ∧ ¬ Lent G args B := by
  rcases h with h | ⟨b, x, hb, _⟩
  · exact h
  · exact absurd hb lendG_get
theorem lendG_st (hS : StRel G) (args : List AV) : StRel (lendG G args) where
  next _ _ h := h.elim
  here b x h := absurd h lendG_get
  gen b g sz p es g' h := absurd h lendG_get
  blk b x h := absurd h lendG_get
  inj b b' x x' B h := absurd h lendG_get
  low B h := by
    rcases h.1 with q | ⟨b, x, hb, hi⟩
    · exact hS.low B q
    · exact (hS.live hb hi).1
theorem lendG_ren {args : List AV} : RenOk G (lendG G args) (fun _ _ => none) where
  size := Nat.le_refl _
  still B _ hM := ⟨fun q => hM (lendG_M q).1, rfl⟩
  next _ _ _ _ _ e := by cases e
  cells _ _ _ _ _ e := by cases e
  rows _ _ _ _ _ _ _ _ e := by cases e
  maps _ _ _ _ _ _ e := by cases e
  yl := .inr rfl
  zero _ _ _ _ e := by cases e
theorem borrow_rel (hS : StRel G) {args : List AV} {a : AV} {c : Value} (hm : a ∈ args) (hf : (borrow1 G.H a).refFree = true) (hv : VRel G a c) : VRel (lendG G args) (borrow1 G.H a) c := by
  by_cases haf : a.refFree = true
  · have hb : borrow1 G.H a = a := by
      cases a <;> first | rfl | (simp [AV.refFree] at haf)
    rw [hb]
    have := hv.ren (lendG_ren (G := G) (args := args))
    rwa [AV.ren_free _ _ haf] at this
  · obtain ⟨hL, _⟩ : LStep G (dropG G []) ∧ True := ⟨.dropG hS [], trivial⟩
    cases hv with
    | hs b g _ hb h1 hh =>
      simp only [borrow1] at hf ⊢
      split at hf
      · rename_i g' sz es hbk
        split at hf
        · rename_i hg; subst hg
          simp only [if_true]
          obtain ⟨ad, cap, rfl, hcap, hrest⟩ := hh _ _ _ hbk
          obtain ⟨⟨_, hrow⟩, hblk⟩ := hS.blk _ _ hbk
          rcases hblk with ⟨hn, rfl⟩ | ⟨B, hi, hlt, _, ar, el, hw, hsz, hr⟩
          · exact .vs [] ad cap 0 0 0 (fun _ _ => default) hcap (.inl rfl) (by simp) (by simp) (by simp)
          · have hval : ∀ (i : Nat) e (j : Nat) c, es[i]? = some e → e.cells[j]? = some c → ar[i * sz + j]? = some (ar[i * sz + j]?.getD default) ∧ VRel (lendG G args) c (ar[i * sz + j]?.getD default) := by
              intro i e j c he hj
              have hjl := (List.getElem?_eq_some_iff.1 hj).1
              rw [(hrow _ e he).1] at hjl
              have := idx_lt (List.getElem?_eq_some_iff.1 he).1 hjl
              have hv := get_some_of (vs := ar) (i := i * sz + j) (by omega)
              have e1 : ar[i * sz + j]?.getD default = ar[i * sz + j] := by rw [hv]; rfl
              rw [e1]
              have h2 := (hr _ e j c _ he hj hv).ren (lendG_ren (G := G) (args := args))
              rw [AV.ren_free _ _ (AV.refFree_cells ((hrow i e he).2.2 rfl) c (List.mem_of_getElem? hj))] at h2
              exact ⟨hv, h2⟩
            refine .vs es ad cap B 0 sz (fun i j => ar[i * sz + j]?.getD default) hcap ?_ (fun i e he => ?_) (fun i e j c he hj => ?_) (fun i e j c he hj => (hval i e j c he hj).2)
            · rcases hrest with ⟨hn, _⟩ | ⟨B', hi', rfl, _⟩
              · rw [hi] at hn; cases hn
              · rw [hi] at hi'; cases hi'
                exact .inr ⟨rfl, fun q => (lendG_M q).2 ⟨_, hm, b, by simp [AV.refs], hi, _, hbk⟩, hlt⟩
            · have := hrow i e he
              exact ⟨by simp only [AV.okElem, Bool.and_eq_true, List.all_eq_true]; exact ⟨this.2.2 rfl, this.2.1⟩, this.1⟩
            · show G.w.cell? _ = _
              rw [cell_of hw, Nat.zero_add]; exact (hval i e j c he hj).1
        · simp [AV.refFree] at hf
      · simp [AV.refFree] at hf
    | hq b g o k _ hb h1 hh =>
      simp only [borrow1] at hf ⊢
      split at hf
      · rename_i g' sz es hbk
        split at hf
        · rename_i hg
          simp only [hg, if_true]
          simp only [Bool.and_eq_true, decide_eq_true_eq] at hg
          obtain ⟨rfl, hle⟩ := hg
          obtain ⟨ad, cap, rfl, hcap, hrest⟩ := hh _ _ _ hbk hle
          obtain ⟨⟨_, hrow⟩, hblk⟩ := hS.blk _ _ hbk
          have hln : ((es.drop o).take k).length = k := by simp; omega
          have hget : ∀ (i : Nat) e, ((es.drop o).take k)[i]? = some e → es[o + i]? = some e := by
            intro i e he
            have hi := (List.getElem?_eq_some_iff.1 he).1
            rw [hln] at hi
            rwa [List.getElem?_take, if_pos hi, List.getElem?_drop] at he
          have hnil : k = 0 → VRel (lendG G args) (.vs ((es.drop o).take k)) (.slice ad k cap) := by
            rintro rfl
            simp only [List.take_zero]
            exact .vs [] ad cap 0 0 0 (fun _ _ => default) (Nat.zero_le _) (.inl rfl) (by simp) (by simp) (by simp)
          rcases hblk with ⟨hn, rfl⟩ | ⟨B, hi, hlt, _, ar, el, hw, hsz, hr⟩
          · exact hnil (by simp at hle; omega)
          · rcases hrest with ⟨rfl, _⟩ | ⟨hn, _⟩ | ⟨B', hi', rfl, _⟩
            · exact hnil rfl
            · rw [hi] at hn; cases hn
            · rw [hi] at hi'; cases hi'
              have hval : ∀ (i : Nat) e (j : Nat) c, ((es.drop o).take k)[i]? = some e → e.cells[j]? = some c → ar[(o + i) * sz + j]? = some (ar[(o + i) * sz + j]?.getD default) ∧ VRel (lendG G args) c (ar[(o + i) * sz + j]?.getD default) := by
                intro i e j c he hj
                have he' := hget i e he
                have hjl := (List.getElem?_eq_some_iff.1 hj).1
                rw [(hrow _ e he').1] at hjl
                have := idx_lt (List.getElem?_eq_some_iff.1 he').1 hjl
                have hv := get_some_of (vs := ar) (i := (o + i) * sz + j) (by omega)
                have e1 : ar[(o + i) * sz + j]?.getD default = ar[(o + i) * sz + j] := by rw [hv]; rfl
                rw [e1]
                have h2 := (hr _ e j c _ he' hj hv).ren (lendG_ren (G := G) (args := args))
                rw [AV.ren_free _ _ (AV.refFree_cells ((hrow _ e he').2.2 rfl) c (List.mem_of_getElem? hj))] at h2
                exact ⟨hv, h2⟩
              have := VRel.vs (G := lendG G args) ((es.drop o).take k) (some ⟨B, o * sz, none⟩) cap B (o * sz) sz (fun i j => ar[(o + i) * sz + j]?.getD default) (by omega)
                (.inr ⟨rfl, fun q => (lendG_M q).2 ⟨_, hm, b, by simp [AV.refs], hi, _, hbk⟩, hlt⟩)
                (fun i e he => by
                  have := hrow _ e (hget i e he)
                  exact ⟨by simp only [AV.okElem, Bool.and_eq_true, List.all_eq_true]; exact ⟨this.2.2 rfl, this.2.1⟩, this.1⟩)
                (fun i e j c he hj => by show G.w.cell? _ = _; rw [← Nat.add_mul, cell_of hw]; exact (hval i e j c he hj).1) (fun i e j c he hj => (hval i e j c he hj).2)
              rwa [hln] at this
        · simp [AV.refFree] at hf
      · simp [AV.refFree] at hf
    | _ => first | (simp [borrow1, AV.refFree] at hf; done) | (exact absurd hf haf)

theorem borrowed_sound {call : CallFn} (hc : CallSpec P call) {f : FuncId} {args : List AV} {cargs : Array Value} {nid : Nat} {v : AV} {L' : List ABlk} (hS : StRel G) (hA : Fresh G nid) (hfree : AV.refFreeL (args.map (borrow1 G.H)) = true)
    (ha : ArgsRel G args cargs) (h : call f (args.map (borrow1 G.H)) [] = some (v, L')) (hown : v.own = true) (hfl : L'.all ABlk.flat = true) (hhi : L'.length ≤ 8) :
    CallsIn Fence.wide 0 P f cargs G.w (CallEnd G nid (v.ren (backMap G.H [] nid)) (putAll G.H [] nid L' 0 G.H)) := by
  refine ((hc _ _ _ _ _ h).2 (lendG G args) cargs (lendG_st hS args) rfl ⟨by rw [List.length_map]; exact ha.1, fun i a c hi hc => ?_⟩).mono ?_
  · rw [List.getElem?_map, Option.map_eq_some_iff] at hi
    obtain ⟨a0, ha0, rfl⟩ := hi
    refine borrow_rel hS (List.mem_of_getElem? ha0) ?_ (ha.2 i a0 c ha0 hc)
    exact AV.refFreeL_iff.1 hfree _ (List.mem_map.2 ⟨a0, List.mem_of_getElem? ha0, rfl⟩)
  · rintro e w' ⟨cv, G1, rfl, rfl, hst, hH, hv⟩
    have h1get : ∀ j, G1.H.get j = L'[j]? := fun j => by rw [hH]; exact heapOf_get L' j
    have hMlt : ∀ B, G.M B → B < G.w.heap.size := by
      rintro B (q | ⟨b, x, hb, hi⟩)
      · exact hS.low B q
      · exact (hS.live hb hi).1
    have hnew : ∀ b x B, G1.H.get b = some x → G1.ι b = some B → G.w.heap.size ≤ B := by
      intro b x B hb hi
      rcases hst.rng b x B hb hi with ⟨b0, x0, h0, _⟩ | q
      · exact absurd h0 lendG_get
      · exact q
    have hst1 : StRel (withF G1 (fun B => G1.F B ∨ G.M B)) := by
      refine flat_F hst.st (fun b x hb => ?_) (fun b x B hb hi q => ?_) fun B q => ?_
      · rw [h1get] at hb
        simp only [List.all_eq_true] at hfl
        exact hfl x (List.mem_of_getElem? hb)
      · rcases q with q | q
        · exact (hst.st.live hb hi).2 q
        · have := hnew b x B hb hi
          have := hMlt B q
          omega
      · rcases q with q | q
        · exact hst.st.low B q
        · exact Nat.lt_of_lt_of_le (hMlt B q) hst.size
    have hfor : ∀ B, foreign G [] B ↔ G.M B := fun B => ⟨foreign_M B, fun q => q.imp id fun ⟨b, x, hb, hi⟩ => ⟨b, x, by simp, hb, hi⟩⟩
    have hA1 : AStep (fun b => b < ([] : List Nat).length) false (packG G (foreign G []) [] fresh0 0 []) (withF G1 (fun B => G1.F B ∨ G.M B)) := {
      st := hst1, size := hst.size
      F1 := fun B q => .inr ((hfor B).1 q)
      F2 := fun B q => by
        rcases q with q | q
        · rcases hst.F2 B q with q | q
          · exact .inl ((hfor B).2 q.1)
          · exact .inr q
        · exact .inl ((hfor B).2 q)
      yl := hst.yl
      outer := fun _ => hst.outer rfl
      os := hst.os, tape := hst.tape, output := hst.output
      far := fun B hB _ _ => hst.far B hB (fun b x hb => absurd hb lendG_get) (.inl rfl)
      rng := fun b x B hb hi => .inr (hnew b x B hb hi)
      A := fun b g hb => absurd hb (Nat.not_lt_zero _)
      cells := fun b cs' hb => absurd hb (Nat.not_lt_zero _)
      rows := fun b g sz p es' hb => absurd hb (Nat.not_lt_zero _)
      maps := fun b ks vs hb => absurd hb (Nat.not_lt_zero _)
      kind := fun b g sz p es' g1 hb => absurd hb (Nat.not_lt_zero _) }
    obtain ⟨b1, b2, b3⟩ := back_sound (order := []) (nid := nid) (L := L') hS List.nodup_nil (by simp) hA rfl hA1 hH (Nat.zero_le _) (by simpa using hhi)
    exact ⟨cv, backG G (withF G1 (fun B => G1.F B ∨ G.M B)) [] nid L', rfl, rfl, b1, rfl, (own_rel hv hown).ren b2, b3⟩

theorem pCall_sound {call : CallFn} (hc : CallSpec P call) {fl : Nat} {f : FuncId} {args : List AV} {cargs : Array Value} {nid : Nat} {v : AV} {H' : Heap} {rd wr : List Nat} (hS : StRel G) (hA : Fresh G nid)
    (ha : ArgsRel G args cargs) (h : pCall call fl f args G.H nid = some (v, H', rd, wr)) : HasCode P f ∧ CallsIn Fence.wide 0 P f cargs G.w (CallEnd G nid v H') := by
  have hok0 : packOk G.H [] fresh0 = true := rfl
  have hfree : ∀ {as : List AV}, AV.refFreeL as = true → AV.renL (toIdx G.H [] fresh0) as = as := fun h => AV.renL_free _ _ h
  have hbor : AV.refFreeL (args.map (borrow1 G.H)) = true → args.any isRow = false → args.map (borrow1 G.H) = args := by
    intro _ hn
    rw [List.any_eq_false] at hn
    have : ∀ l : List AV, (∀ a ∈ l, ¬ isRow a = true) → l.map (borrow1 G.H) = l := by
      intro l
      induction l with
      | nil => intro _; rfl
      | cons a r ih =>
        intro hl
        rw [List.map_cons, ih fun b hb => hl b (by simp [hb])]
        have := hl a (by simp)
        congr 1
        cases a <;> first | rfl | (simp [isRow] at this)
    exact this args hn
  unfold pCall at h
  simp only at h
  generalize hav : (if fl = 4 then args else args.map (borrow1 G.H)) = av at h
  split at h
  · rename_i hfr
    obtain ⟨⟨r1, r2⟩, hr, h⟩ := Option.bind_eq_some_iff.1 h
    split at h
    · rename_i hrow
      simp only [Bool.and_eq_true, decide_eq_true_eq, ne_eq] at hrow
      obtain ⟨hfl4, _⟩ := hrow
      rw [if_neg hfl4] at hav
      rw [← hav] at hr hfr
      split at h
      · rename_i hcond
        simp only [Bool.and_eq_true, decide_eq_true_eq] at hcond
        obtain ⟨⟨h1, h2⟩, h3⟩ := hcond
        cases h
        exact ⟨(hc _ _ _ _ _ hr).1, borrowed_sound hc hS hA hfr ha hr h1 h2 h3⟩
      · cases h
    · rename_i hrow
      have hargs : av = args := by
        by_cases h4 : fl = 4
        · rw [if_pos h4] at hav; exact hav.symm
        · rw [if_neg h4] at hav
          rw [← hav] at hfr
          exact hav.symm.trans (hbor hfr (by simpa [h4] using hrow))
      rw [hargs] at hr hfr
      have hlent : ∀ {L' : List ABlk}, call f args [] = some (r1, L') → L'.length ≤ 8 → CallsIn Fence.wide 0 P f cargs G.w (CallEnd G nid (r1.ren (backMap G.H [] nid)) (putAll G.H [] nid L' 0 G.H)) := by
        intro L' hr hL
        exact lent_sound hc hS hA hok0 List.nodup_nil ha (by rw [hfree hfr]; exact hr) (Nat.zero_le _) (by simpa using hL)
      split at h
      · rename_i hemp
        split at h
        · rename_i hrf
          cases h
          rw [List.isEmpty_iff] at hemp
          simp only at hemp; subst hemp
          have := hlent hr (by simp)
          rw [AV.ren_free _ _ hrf] at this
          exact ⟨(hc _ _ _ _ _ hr).1, this⟩
        · cases h
      · split at h
        · rename_i hL
          cases h
          exact ⟨(hc _ _ _ _ _ hr).1, hlent hr hL⟩
        · cases h
  · split at h
    · cases h
    · rename_i hrow
      obtain ⟨⟨r1, r2⟩, hr, h⟩ := Option.bind_eq_some_iff.1 h
      split at h
      · rename_i hcond
        simp only [Bool.and_eq_true, decide_eq_true_eq] at hcond
        obtain ⟨⟨h1, h2⟩, h3⟩ := hcond
        cases h
        have hargs : av = args := by
          by_cases h4 : fl = 4
          · rw [if_pos h4] at hav; exact hav.symm
          · rw [if_neg h4] at hav
            rw [← hav]
            have hn : args.any isRow = false := by simpa [h4] using hrow
            rw [List.any_eq_false] at hn
            have : ∀ l : List AV, (∀ a ∈ l, ¬ isRow a = true) → l.map (borrow1 G.H) = l := by
              intro l
              induction l with
              | nil => intro _; rfl
              | cons a r ih =>
                intro hl
                rw [List.map_cons, ih fun b hb => hl b (by simp [hb])]
                have := hl a (by simp)
                congr 1
                cases a <;> first | rfl | (simp [isRow] at this)
            exact this args hn
        rw [hargs] at hr h1 h2 h3 ⊢
        exact ⟨(hc _ _ _ _ _ hr).1, lent_sound hc hS hA h3 (reached_nodup _ _) ha hr h1 h2⟩
      · cases h
end call
end Go.Am
namespace Go.Am
section op
variable {P : Program} {G : Gh}

def wideR (ro : Option Nat) : Fence := { Fence.wide with round := ro }
theorem room_wideR (ro : Option Nat) (n : Nat) : (wideR ro).room n := room_wide n
theorem callsIn_wideR {ro : Option Nat} {n m : Nat} {f : FuncId} {args : Array Value} {w : World} {R : Ending → World → Prop} (h : CallsIn Fence.wide m P f args w R) : CallsIn (wideR ro) n P f args w R := by
  refine ⟨trivial, fun cs _ => ?_⟩
  obtain ⟨e, w', fr, h1, h2, h3⟩ := h.2 cs (room_wide _)
  exact ⟨e, w', fr, h1, h2, h3⟩
theorem roundIn_wideR {ro : Option Nat} {n m l : Nat} {f : FuncId} {tmps : Array Value} {assign body : Code} {w : World} {R : Ending → World → Prop} (h : RoundIn Fence.wide m P l f tmps assign body w R) : RoundIn (wideR ro) n P l f tmps assign body w R := by
  refine ⟨trivial, fun c cs _ => ?_⟩
  obtain ⟨e, w', h1, h2⟩ := h.2 c cs (room_wide _)
  exact ⟨e, w', h1, h2⟩

/-- what holds of the outer calls: kept by the call's own steps -/
def OStab (OI : Gh → Prop) : Prop := ∀ (N : Nat → Prop) (G G2 : Gh), OI G → AStep N false G G2 → OI G2
/-- a round of the outer call's loop -/
def OYield (P : Program) (Y : YFn) (l : Nat) (OI : Gh → Prop) : Prop :=
  ∀ (G : Gh) (args : List AV) (cargs : Array Value) (b : Bool) (out : List OSt), StRel G → OI G → G.yl = some l → AV.refFreeL args = true → ArgsRel G args cargs → Y args G.H.outer = some (b, out) →
    ∃ f tmps assign body w1, (Instr.yield l cargs).run P G.w = .ok (.round l f tmps assign body) w1 ∧
      RoundIn Fence.wide 0 P l f tmps assign body w1 fun e w' => e = .returned (.bool b) ∧ ∃ G2, G2.w = w' ∧ G2.H = { G.H with outer := out } ∧ G2.A = G.A ∧ AStep (fun _ => True) true G G2 ∧ OI G2
def YRel (P : Program) (Y : Option YFn) (yl : Option Nat) (OI : Gh → Prop) : Prop := ∀ Z, Y = some Z → ∃ l, yl = some l ∧ OYield P Z l OI

theorem ArgsRel.append {a b : List AV} {x y : Array Value} (h : ArgsRel G a x) (k : ArgsRel G b y) : ArgsRel G (a ++ b) (x ++ y) := by
  refine ⟨by simp [h.1, k.1], fun i u v hu hv => ?_⟩
  rw [List.getElem?_append] at hu
  rw [Array.getElem?_append] at hv
  have h1 := h.1
  split at hu
  · rw [if_pos (by omega)] at hv; exact h.2 i u v hu hv
  · rw [if_neg (by omega)] at hv
    rw [h1] at hu
    exact k.2 _ u v hu hv

/-- one operation -/
theorem op_wp {R : Type} {cx : Cx} {fl : Nat} {o : Oper} {ρ : Operand → AV} {a : Act} {nid : Nat} {K : AV → Heap → List Nat → List Nat → Option R} {r : R} {OI : Gh → Prop} {ro : Option Nat} (h : astep0 cx fl o ρ nid G.H K = some r)
    (hP : cx.P = P) (hC : CallSpec P cx.call) (hY : YRel P cx.yield G.yl OI) (hO : OStab OI) (hS : StRel G) (hOI : OI G) (hρ : ∀ x ∈ o.op.operands.toList, VRel G (ρ x) (a.eval x)) (hA : Fresh G nid) :
    ∃ v H' rd wr, K v H' rd wr = some r ∧ ∀ (next : Act → World → Prop) (Q : Exit → Act → World → Prop),
      (∀ cv G2, AStep (fun _ => True) cx.yield.isSome G G2 → G2.H = H' → VRel G2 v cv → (∀ b g, G2.A b g → (∃ g', G.A b g') ∨ (nid ≤ b ∧ b < nid + 8)) → OI G2 → next (a.put o.dst cv) G2.w) →
      o.wpIn (wideR ro) 0 P a G.w next Q := by
  have hnd : ∀ c, o.op ≠ .defer c := by
    intro c hc
    simp [astep0, hc] at h
  rcases astep0_sound h hP hS hρ hA with ⟨v, H', rd, wr, hK, nx, cv, G2, hrun, hnx, hL, hH, hv, hAc⟩ | ⟨c, f, hop, hcal⟩
  · refine ⟨v, H', rd, wr, hK, fun next Q hnext => ⟨fun _ _ => trivial, ?_⟩⟩
    rw [Oper.semAt_eq _ _ _ hnd, hrun]
    have := hnext cv G2 hL.a hH hv hAc (hO (fun _ => True) G G2 hOI hL.a)
    rcases hnx with rfl | ⟨rfl, rfl⟩
    · exact this
    · exact this
  · have hargs : ArgsRel G (c.args.toList.map ρ) (c.args.map a.eval) := rel_arr fun y hy => hρ y (by simp [hop, Op.operands, Call.operands, hcal] at hy ⊢; exact .inr hy)
    have hfv : VRel G (ρ f) (a.eval f) := hρ f (by simp [hop, Op.operands, Call.operands, hcal])
    simp only [astep0, hop, hcal] at h
    split at h
    · rename_i hyld
      obtain ⟨⟨rv, rH⟩, hy, h⟩ := Option.bind_eq_some_iff.1 h
      refine ⟨_, _, _, _, h, fun next Q hnext => ⟨fun _ _ => trivial, ?_⟩⟩
      rw [hyld] at hfv
      generalize hfe : a.eval f = fe at hfv
      cases hfv with
      | yld l hl =>
        simp only [pYield, Option.bind_eq_some_iff] at hy
        obtain ⟨Y, hYs, hy⟩ := hy
        split at hy
        · rename_i hfr
          simp only [Option.map_eq_some_iff] at hy
          obtain ⟨⟨b, out⟩, hyo, hy⟩ := hy
          cases hy
          obtain ⟨l', hl', hyl⟩ := hY Y hYs
          rw [hl] at hl'; cases hl'
          obtain ⟨f', tmps, assign, body, w1, hrun, hround⟩ := hyl G _ _ b out hS hOI hl hfr hargs hyo
          rw [Oper.semAt_eq _ _ _ hnd]
          have hex : (execOp a.eval o).run P G.w = .ok (.round l f' tmps assign body) w1 := by
            simp only [execOp, hop, resolve, hcal, hfe, Deferred.ofValue, Sem.run_bind, Sem.run_pure, Result.andThen_ok, invoke]
            simpa using hrun
          rw [hex, Oper.uponIn_round]
          refine ⟨fun q => by simp [wideR, Fence.wide] at q, roundIn_wideR (hround.mono ?_)⟩
          rintro e w' ⟨rfl, G2, rfl, hH, hAA, hst, hOI2⟩
          exact hnext _ G2 (by rw [hYs]; exact hst) hH (.bool b) (fun b g q => .inl ⟨g, hAA ▸ q⟩) hOI2
        · cases hy
    · obtain ⟨⟨fid, q1, q2⟩, hfn, h⟩ := Option.bind_eq_some_iff.1 h
      obtain ⟨⟨rv, rH, rd, wr⟩, hcall, h⟩ := Option.bind_eq_some_iff.1 h
      refine ⟨_, _, _, _, h, fun next Q hnext => ⟨fun _ _ => trivial, ?_⟩⟩
      generalize hfe : a.eval f = fe at hfv
      cases hfa : ρ f with
      | fn fid' a1 a2 =>
        rw [hfa] at hfn hfv
        simp only [fnOf, Option.some.injEq, Prod.mk.injEq] at hfn
        obtain ⟨rfl, rfl, rfl⟩ := hfn
        cases hfv with
        | fn _ _ _ fs cs hl hl' hr hr' =>
          have hall : ArgsRel G (a1 ++ c.args.toList.map ρ ++ a2) (fs ++ c.args.map a.eval ++ cs) := (ArgsRel.append ⟨hl, hr⟩ hargs).append ⟨hl', hr'⟩
          subst hP
          obtain ⟨⟨fn, hf, hname, hbody⟩, hcalls⟩ := pCall_sound hC hS hA hall hcall
          rw [Oper.semAt_eq _ _ _ hnd]
          have hbn : fn.body.isNone = false := by cases hb : fn.body <;> simp_all
          have hex : (execOp a.eval o).run cx.P G.w = .ok (.enter fid' (fs ++ c.args.map a.eval ++ cs)) G.w := by
            simp only at hf
            simp only [execOp, hop, resolve, hcal, hfe, Deferred.ofValue, Sem.run_bind, Sem.run_pure, Result.andThen_ok, invoke, callFunc, run_program, hf, hname, Bool.false_eq_true, if_false, hbn]
          rw [hex, Oper.uponIn_enter]
          refine ⟨fun q => by simp [wideR, Fence.wide] at q, callsIn_wideR (hcalls.mono ?_)⟩
          rintro e w' ⟨cv, G2, rfl, rfl, hst, hH, hv, hAc⟩
          exact hnext cv G2 (hst.any (by simp)) hH hv hAc (hO (fun _ => True) G G2 hOI hst)
      | _ => rw [hfa] at hfn; simp [fnOf] at hfn
end op
end Go.Am
namespace Go.Am
section region
variable {P : Program} {G : Gh}

/-- one operation, the value frozen if it is to be -/
theorem astep_wp {R : Type} {cx : Cx} {fl : Nat} {o : Oper} {ρ : Operand → AV} {a : Act} {nid : Nat} {K : AV → Heap → List Nat → List Nat → Option R} {r : R} {OI : Gh → Prop} {ro : Option Nat} (h : astep cx fl o ρ nid G.H K = some r)
    (hP : cx.P = P) (hC : CallSpec P cx.call) (hY : YRel P cx.yield G.yl OI) (hO : OStab OI) (hS : StRel G) (hOI : OI G) (hρ : ∀ x ∈ o.op.operands.toList, VRel G (ρ x) (a.eval x)) (hA : Fresh G nid) :
    ∃ v H' rd wr, K v H' rd wr = some r ∧ ∀ (next : Act → World → Prop) (Q : Exit → Act → World → Prop),
      (∀ cv G2, AStep (fun _ => True) cx.yield.isSome G G2 → G2.H = H' → VRel G2 v cv → (∀ b g, G2.A b g → (∃ g', G.A b g') ∨ (nid ≤ b ∧ b < nid + 8)) → OI G2 → next (a.put o.dst cv) G2.w) →
      o.wpIn (wideR ro) 0 P a G.w next Q := by
  unfold astep at h
  split at h
  · obtain ⟨v, H', rd, wr, hK, hwp⟩ := op_wp (ro := ro) h hP hC hY hO hS hOI hρ hA
    refine ⟨_, _, _, _, hK, fun next Q hnext => hwp next Q fun cv G2 hst hH hv hAc hOI2 => ?_⟩
    obtain ⟨G3, hL, hw, hH3, hA3, _, hv3⟩ := pFrz_sound (nL := 0) hst.st hv
    rw [hH] at hH3 hv3
    rw [← hw]
    exact hnext cv G3 (hst.trans hL.a) hH3 hv3 (fun b g q => hAc b g (hA3 ▸ q)) (hO (fun _ => True) G2 G3 hOI2 hL.a)
  · exact op_wp h hP hC hY hO hS hOI hρ hA

/-- slots: what a region has written, and what lies in the frame -/
def Env (G : Gh) (pos : List Nat) (fr : List AV) (loc : List (Nat × AV)) (a : Act) : Prop :=
  (∀ t v, loc.lookup t = some v → VRel G v (a.eval (.tmp t))) ∧ ∀ (i : Nat) t v, pos[i]? = some t → fr[i]? = some v → loc.lookup t = none → VRel G v (a.eval (.tmp t))
def valOf (pos : List Nat) (a : Act) : Nat → Option Value := fun i => (pos[i]?).map fun t => a.eval (.tmp t)
theorem Env.start {pos : List Nat} {fr : List AV} {a : Act} (h : FRel G fr (valOf pos a)) : Env G pos fr [] a :=
  ⟨by simp, fun i t v hp hf _ => h i v _ hf (by simp [valOf, hp])⟩
theorem Env.eval {pos : List Nat} {fr : List AV} {loc : List (Nat × AV)} {a : Act} (h : Env G pos fr loc a) (x : Operand) : VRel G (evalA pos fr loc x) (a.eval x) := by
  cases x with
  | const v => exact ofConst_rel G v
  | func f => exact .fn f [] [] #[] #[] rfl rfl (by simp) (by simp)
  | global g => exact .undef _
  | tmp t =>
    simp only [evalA]
    split
    · rename_i v hv; exact h.1 t v hv
    · rename_i hv
      split
      · rename_i i hi
        rw [List.getD_eq_getElem?_getD]
        cases hf : fr[i]? with
        | none => exact .undef _
        | some u => exact h.2 i t u (idxOf_some hi) hf hv
      · exact .undef _
theorem Env.expo {pos : List Nat} {fr : List AV} {loc : List (Nat × AV)} {a : Act} (h : Env G pos fr loc a) : FRel G (expo pos fr loc) (valOf pos a) := by
  intro i v c hv hc
  simp only [Am.expo] at hv
  rw [List.getElem?_map, Option.map_eq_some_iff] at hv
  obtain ⟨⟨t, u⟩, hq, rfl⟩ := hv
  rw [List.getElem?_zip_eq_some] at hq
  simp only [valOf, hq.1, Option.map_some, Option.some.injEq] at hc
  subst hc
  cases hl : loc.lookup t with
  | none => exact h.2 i t u hq.1 hq.2 hl
  | some w => exact h.1 t w hl
theorem Env.ext {G2 : Gh} {pos : List Nat} {fr : List AV} {loc : List (Nat × AV)} {a : Act} (h : Env G pos fr loc a) (he : Ext G G2) : Env G2 pos fr loc a :=
  ⟨fun t v hv => (h.1 t v hv).ext he, fun i t v h1 h2 h3 => (h.2 i t v h1 h2 h3).ext he⟩
theorem eval_put_self {a : Act} {d : Nat} {c : Value} (h : d < a.tmps.size) : (a.put (some d) c).eval (.tmp d) = c := by
  simp [Act.put, Act.eval, Array.getD_eq_getD_getElem?, h]
theorem eval_put_ne {a : Act} {d t : Nat} {c : Value} (h : t ≠ d) : (a.put (some d) c).eval (.tmp t) = a.eval (.tmp t) := by
  simp [Act.put, Act.eval, Array.getD_eq_getD_getElem?, Array.getElem?_setIfInBounds, Ne.symm h]
theorem Env.bnd {pos : List Nat} {fr : List AV} {loc : List (Nat × AV)} {a : Act} {o : Oper} {v : AV} {c : Value} (h : Env G pos fr loc a) (hd : ∀ d, o.dst = some d → d < a.tmps.size) (hv : VRel G v c) : Env G pos fr (bnd o v loc) (a.put o.dst c) := by
  cases hdst : o.dst with
  | none => simpa [Am.bnd, hdst, Act.put] using h
  | some d =>
    simp only [Am.bnd, hdst]
    refine ⟨fun t u hu => ?_, fun i t u h1 h2 h3 => ?_⟩
    · rw [List.lookup_cons] at hu
      by_cases htd : t = d
      · subst htd
        simp only [beq_self_eq_true, Option.some.injEq] at hu; subst hu
        rw [eval_put_self (hd _ hdst)]; exact hv
      · have : (t == d) = false := by simp [htd]
        rw [this] at hu
        rw [eval_put_ne htd]; exact h.1 t u hu
    · rw [List.lookup_cons] at h3
      by_cases htd : t = d
      · subst htd; simp at h3
      · have : (t == d) = false := by simp [htd]
        rw [this] at h3
        rw [eval_put_ne htd]; exact h.2 i t u h1 h2 h3
theorem size_put (a : Act) (d : Option Nat) (c : Value) : (a.put d c).tmps.size = a.tmps.size := by cases d <;> simp [Act.put]
theorem defers_put (a : Act) (d : Option Nat) (c : Value) : (a.put d c).defers = a.defers := by cases d <;> rfl

/-- guards -/
theorem gd_sound {S : Type} {all : Array Oper} {j : Nat} {want : Bool} {a : Act} {gv : AV} {x : Option S} {d q : S} (h : gd gv want x d = some q) (hg : VRel G gv (a.eval (guardSlot all.toList j))) :
    ((yielded all a.tmps j == some want) = true ∧ x = some q) ∨ ((yielded all a.tmps j == some want) = false ∧ q = d) := by
  have hy : ∀ b, a.eval (guardSlot all.toList j) = .bool b → yielded all a.tmps j = some b := by
    intro b hb
    unfold guardSlot at hb
    unfold yielded
    rw [Array.getElem?_toList] at hb
    cases hd : (all[j]?).bind (·.dst) with
    | none => rw [hd] at hb; cases hb
    | some t =>
      rw [hd] at hb
      simp only [Act.eval, Array.getD_eq_getD_getElem?] at hb
      cases ht : a.tmps[t]? with
      | none => rw [ht] at hb; cases hb
      | some u => rw [ht] at hb; simp only [Option.getD_some] at hb; subst hb; simp [ht]
  have hn : a.eval (guardSlot all.toList j) = undef → yielded all a.tmps j = none := by
    intro hb
    unfold guardSlot at hb
    unfold yielded
    rw [Array.getElem?_toList] at hb
    cases hd : (all[j]?).bind (·.dst) with
    | none => rfl
    | some t =>
      rw [hd] at hb
      simp only [Act.eval, Array.getD_eq_getD_getElem?] at hb
      cases ht : a.tmps[t]? with
      | none => simp [ht]
      | some u => rw [ht] at hb; simp only [Option.getD_some] at hb; subst hb; simp [ht, undef]
  unfold gd at h
  split at h
  · rename_i b
    generalize he : a.eval (guardSlot all.toList j) = e at hg
    cases hg with
    | bool b =>
      rw [hy b he]
      split at h
      · rename_i hb; subst hb; exact .inl ⟨by simp, h⟩
      · rename_i hb; cases h; exact .inr ⟨by simp [hb], rfl⟩
  · cases h
    generalize he : a.eval (guardSlot all.toList j) = e at hg
    cases hg with
    | tup _ vs hl _ =>
      have : vs = #[] := by simpa using hl.symm
      subst this
      rw [hn he]; exact .inr ⟨rfl, rfl⟩
  · cases h
end region
end Go.Am
namespace Go.Am
section region
variable {P : Program}

def some4 : AV → Heap → List Nat → List Nat → Option Q4 := fun v H rd wr => some (v, H, rd, wr)
theorem astep0_bind {R : Type} (cx : Cx) (fl : Nat) (o : Oper) (ρ : Operand → AV) (nid : Nat) (H : Heap) (K : AV → Heap → List Nat → List Nat → Option R) :
    astep0 cx fl o ρ nid H K = (astep0 cx fl o ρ nid H some4).bind fun q => K q.1 q.2.1 q.2.2.1 q.2.2.2 := by
  unfold astep0
  cases o.op <;> simp only [some4] <;> (try rfl)
  all_goals
    (repeat' split) <;> simp only [Option.bind_assoc, Option.bind_some, Option.bind_none, Option.bind_eq_bind] <;> (try rfl) <;> (try (congr 1; funext v; (repeat' split) <;> simp only [Option.bind_assoc, Option.bind_some, Option.bind_none]))
theorem astep_bind {R : Type} (cx : Cx) (fl : Nat) (o : Oper) (ρ : Operand → AV) (nid : Nat) (H : Heap) (K : AV → Heap → List Nat → List Nat → Option R) :
    astep cx fl o ρ nid H K = (astep cx fl o ρ nid H some4).bind fun q => K q.1 q.2.1 q.2.2.1 q.2.2.2 := by
  unfold astep
  split
  · rw [astep0_bind, astep0_bind cx 3 o ρ nid H (fun v H' rd wr => some4 (pFrz 0 v H').1 (pFrz 0 v H').2 rd (wr ++ touched H' [v])), Option.bind_assoc]
    rfl
  · exact astep0_bind cx fl o ρ nid H K
theorem astep_wp4 {G : Gh} {cx : Cx} {fl : Nat} {o : Oper} {ρ : Operand → AV} {a : Act} {nid : Nat} {v : AV} {H' : Heap} {rd wr : List Nat} {OI : Gh → Prop} {ro : Option Nat} (h : astep cx fl o ρ nid G.H some4 = some (v, H', rd, wr))
    (hP : cx.P = P) (hC : CallSpec P cx.call) (hY : YRel P cx.yield G.yl OI) (hO : OStab OI) (hS : StRel G) (hOI : OI G) (hρ : ∀ x ∈ o.op.operands.toList, VRel G (ρ x) (a.eval x)) (hA : Fresh G nid)
    (next : Act → World → Prop) (Q : Exit → Act → World → Prop)
    (hnext : ∀ cv G2, AStep (fun _ => True) cx.yield.isSome G G2 → G2.H = H' → VRel G2 v cv → (∀ b g, G2.A b g → (∃ g', G.A b g') ∨ (nid ≤ b ∧ b < nid + 8)) → OI G2 → next (a.put o.dst cv) G2.w) :
    o.wpIn (wideR ro) 0 P a G.w next Q := by
  obtain ⟨v0, H0, rd0, wr0, hK, hwp⟩ := astep_wp (ro := ro) h hP hC hY hO hS hOI hρ hA
  simp only [some4, Option.some.injEq, Prod.mk.injEq] at hK
  obtain ⟨rfl, rfl, rfl, rfl⟩ := hK
  exact hwp next Q hnext

theorem fresh_next {G : Gh} (hS : StRel G) : Fresh G G.H.next := fun b g h1 _ ha => by have := hS.next b g ha; omega

theorem aops_sound {R : Type} {cx : Cx} {ops : Array Oper} {rid nt : Nat} {fr : List AV} {K : List (Nat × AV) → Heap → Option R} {r : R} {OI : Gh → Prop} {ro : Option Nat} (hP : cx.P = P) (hC : CallSpec P cx.call) (hO : OStab OI)
    (hds : ∀ o, o ∈ ops.toList → ∀ d, o.dst = some d → d < nt) : ∀ (l : List Oper) (i : Nat) (loc : List (Nat × AV)) (H : Heap), ops.toList.drop i = l → aops cx fr rid ops.toList K l i loc H = some r →
    ∃ loc' H', K loc' H' = some r ∧ ∀ (G : Gh) (a : Act), G.H = H → YRel P cx.yield G.yl OI → StRel G → OI G → Env G cx.ann.pos fr loc a → a.tmps.size = nt →
      ∀ (Q : Exit → Act → World → Prop), (∀ a' G2, AStep (fun _ => True) cx.yield.isSome G G2 → G2.H = H' → Env G2 cx.ann.pos fr loc' a' → OI G2 → a'.tmps.size = nt → a'.defers = a.defers → Q .normal a' G2.w) →
        wpOpsIn (wideR ro) 0 P ops Q (List.range' i l.length) a G.w
  | [], i, loc, H, _, h => by
    refine ⟨loc, H, h, fun G a hH hY hS hOI hE hn Q hQ => ?_⟩
    simp only [List.length_nil, List.range'_zero, wpOpsIn]
    exact hQ a G (.refl hS) hH hE hOI hn rfl
  | o :: rest, i, loc, H, hd, h => by
    have ho : ops[i]? = some o := by
      have : (ops.toList.drop i)[0]? = some o := by rw [hd]; rfl
      rw [List.getElem?_drop, Nat.add_zero, Array.getElem?_toList] at this
      exact this
    have hmem : o ∈ ops.toList := by
      have : ops.toList[i]? = some o := by rw [Array.getElem?_toList]; exact ho
      exact List.mem_of_getElem? this
    have hd' : ops.toList.drop (i + 1) = rest := by
      have := congrArg (List.drop 1) hd
      rw [List.drop_drop] at this
      simpa using this
    simp only [aops] at h
    split at h
    · rename_i hg
      rw [astep_bind] at h
      simp only [fzQ_eq] at h
      obtain ⟨⟨v, H1, rd, wr⟩, hst, h⟩ := Option.bind_eq_some_iff.1 h
      obtain ⟨loc', H', hK, hrest⟩ := aops_sound (ro := ro) hP hC hO hds rest (i + 1) (bnd o v loc) H1 hd' h
      refine ⟨loc', H', hK, fun G a hH hY hS hOI hE hn Q hQ => ?_⟩
      subst hH
      simp only [List.length_cons, List.range'_succ, wpOpsIn, ho, Region.wanted, hg, if_true]
      refine astep_wp4 hst hP hC hY hO hS hOI (fun x _ => hE.eval x) (fresh_next hS) _ _ fun cv G2 hst2 hH2 hv _ hOI2 => ?_
      refine hrest G2 (a.put o.dst cv) hH2 (by rw [hst2.yl]; exact hY) hst2.st hOI2 ((hE.ext hst2.ext).bnd (fun d hdd => by rw [hn]; exact hds o hmem d hdd) hv) (by rw [size_put]; exact hn) Q fun a' G3 h3 h4 h5 h6 h7 h8 => ?_
      exact hQ a' G3 (hst2.trans h3) h4 h5 h6 h7 (h8.trans (defers_put _ _ _))
    · rename_i j want hg
      obtain ⟨⟨v, H1, rd, wr⟩, hgd, h⟩ := Option.bind_eq_some_iff.1 h
      simp only [fzQ_eq] at h
      obtain ⟨loc', H', hK, hrest⟩ := aops_sound (ro := ro) hP hC hO hds rest (i + 1) (bnd o v loc) H1 hd' h
      refine ⟨loc', H', hK, fun G a hH hY hS hOI hE hn Q hQ => ?_⟩
      subst hH
      simp only [List.length_cons, List.range'_succ, wpOpsIn, ho, Region.wanted, hg]
      rcases gd_sound (a := a) hgd (hE.eval _) with ⟨hw, hx⟩ | ⟨hw, hx⟩
      · simp only [hw, if_true]
        refine astep_wp4 hx hP hC hY hO hS hOI (fun x _ => hE.eval x) (fresh_next hS) _ _ fun cv G2 hst2 hH2 hv _ hOI2 => ?_
        refine hrest G2 (a.put o.dst cv) hH2 (by rw [hst2.yl]; exact hY) hst2.st hOI2 ((hE.ext hst2.ext).bnd (fun d hdd => by rw [hn]; exact hds o hmem d hdd) hv) (by rw [size_put]; exact hn) Q fun a' G3 h3 h4 h5 h6 h7 h8 => ?_
        exact hQ a' G3 (hst2.trans h3) h4 h5 h6 h7 (h8.trans (defers_put _ _ _))
      · simp only [hw, Bool.false_eq_true, if_false]
        cases hx
        refine ⟨fun _ _ => trivial, ?_⟩
        refine hrest G (a.put o.dst undef) rfl hY hS hOI (hE.bnd (fun d hdd => by rw [hn]; exact hds o hmem d hdd) (.tup [] #[] rfl (by simp))) (by rw [size_put]; exact hn) Q fun a' G3 h3 h4 h5 h6 h7 h8 => ?_
        exact hQ a' G3 h3 h4 h5 h6 h7 (h8.trans (defers_put _ _ _))
end region
end Go.Am
namespace Go.Am
section loc
variable {P : Program} {H H2 : Heap}

/-- two heaps that say the same at what a value names itself -/
def Same (x : AV) (H H2 : Heap) : Prop := ∀ b, b ∈ rdOf x → H2.get b = H.get b
theorem liveP_same {x : AV} (h : Same x H H2) : liveP x H2 = liveP x H := by
  unfold liveP; cases x <;> simp only <;> (try rfl) <;> rw [h _ (by simp [rdOf])]
theorem cellsAt_same {x : AV} (h : Same x H H2) : cellsAt x H2 = cellsAt x H := by
  unfold cellsAt; cases x <;> simp only <;> (try rfl) <;> rw [h _ (by simp [rdOf])]
theorem rowOf_same {x : AV} (h : Same x H H2) : rowOf x H2 = rowOf x H := by
  unfold rowOf; cases x <;> simp only <;> (try rfl) <;> rw [h _ (by simp [rdOf])]
theorem mapOf_same {x : AV} (h : Same x H H2) : mapOf x H2 = mapOf x H := by
  unfold mapOf; cases x <;> simp only <;> (try rfl) <;> rw [h _ (by simp [rdOf])]
theorem addOff_same {x : AV} {n : Nat} (h : Same x H H2) : addOff x n H2 = addOff x n H := by unfold addOff; rw [liveP_same h]
theorem pNil_same {x : AV} (h : Same x H H2) : pNil x H2 = pNil x H := by unfold pNil; rw [liveP_same h]
theorem pFieldAddr_same {s : TypeId} {x : AV} {f : Nat} (h : Same x H H2) : pFieldAddr P s x f H2 = pFieldAddr P s x f H := by unfold pFieldAddr; simp only [addOff_same h]
theorem pLoad_same {t : TypeId} {x : AV} (h : Same x H H2) : pLoad P t x H2 = pLoad P t x H := by unfold pLoad; rw [cellsAt_same h]
theorem pLookup_same {t : TypeId} {x k : AV} {ok : Bool} (h : Same x H H2) : pLookup P t x k ok H2 = pLookup P t x k ok H := by unfold pLookup; simp only [mapOf_same h]
theorem pLen_same {t : TypeId} {x : AV} (h : Same x H H2) : pLen P t x H2 = pLen P t x H := by
  unfold pLen; rw [rowOf_same h]
  cases x <;> simp only <;> (try rfl) <;> rw [h _ (by simp [rdOf])]
theorem pIndexAddr_same {t : TypeId} {x i : AV} (h : Same x H H2) : pIndexAddr P t x i H2 = pIndexAddr P t x i H := by
  unfold pIndexAddr; simp only [addOff_same h]
  cases x <;> simp only <;> (try rfl) <;> rw [h _ (by simp [rdOf])]
theorem pSlice_same {t : TypeId} {x : AV} {lo hi mx : Option AV} (h : Same x H H2) : pSlice P t x lo hi mx H2 = pSlice P t x lo hi mx H := by
  unfold pSlice
  cases x <;> simp only <;> (try rfl) <;> rw [h _ (by simp [rdOf])]
theorem eqNil_same {t : TypeId} {x y : AV} (h : Same x H H2) : eqNil P t x y H2 = eqNil P t x y H := by
  unfold eqNil; simp only [liveP_same h]
  cases x with
  | vs es => cases es <;> cases y <;> rfl
  | hs b g => cases y <;> first | rfl | (simp only; rw [h b (by simp [rdOf])])
  | _ => cases y <;> rfl
theorem pBin_same {op : BinOp} {t : TypeId} {x y : AV} (h : Same x H H2) : pBin P op t x y H2 = pBin P op t x y H := by unfold pBin; simp only [eqNil_same h]

/-- an operation reads and turns no more than it says -/
def Loc4 (f : Heap → Option Q4) : Prop :=
  ∀ H v H' rd wr, f H = some (v, H', rd, wr) → (∀ b, b ∉ wr → H'.get b = H.get b) ∧ H'.outer = H.outer ∧
    ∀ H2, (∀ b, b ∈ rd ∨ b ∈ wr → H2.get b = H.get b) → ∃ H2', f H2 = some (v, H2', rd, wr) ∧ (∀ b, b ∈ wr → H2'.get b = H'.get b) ∧ (∀ b, b ∉ wr → H2'.get b = H2.get b) ∧ H2'.outer = H2.outer
/-- nothing turned -/
theorem Loc4.pure {g : Heap → Option AV} {rd : List Nat} (h : ∀ H H2, (∀ b, b ∈ rd → H2.get b = H.get b) → g H2 = g H) : Loc4 fun H => (g H).bind fun v => some4 v H rd [] := by
  intro H v H' rd' wr' e
  obtain ⟨u, hu, e⟩ := Option.bind_eq_some_iff.1 e
  simp only [some4, Option.some.injEq, Prod.mk.injEq] at e
  obtain ⟨rfl, rfl, rfl, rfl⟩ := e
  refine ⟨fun _ _ => rfl, rfl, fun H2 hs => ⟨H2, ?_, fun b hb => by simp at hb, fun _ _ => rfl, rfl⟩⟩
  simp only [h H H2 fun b hb => hs b (.inl hb), hu, Option.bind_some, some4]
/-- one block laid -/
theorem Loc4.put {g : Heap → Option (AV × Nat × ABlk)} {rd wr : List Nat} (h : ∀ H H2, (∀ b, b ∈ rd ∨ b ∈ wr → H2.get b = H.get b) → g H2 = g H) (hw : ∀ H q, g H = some q → q.2.1 ∈ wr) :
    Loc4 fun H => (g H).bind fun q => some4 q.1 (H.put q.2.1 q.2.2) rd wr := by
  intro H v H' rd' wr' e
  obtain ⟨q, hq, e⟩ := Option.bind_eq_some_iff.1 e
  simp only [some4, Option.some.injEq, Prod.mk.injEq] at e
  obtain ⟨rfl, rfl, rfl, rfl⟩ := e
  have hin := hw H q hq
  refine ⟨fun b hb => ?_, rfl, fun H2 hs => ⟨H2.put q.2.1 q.2.2, ?_, fun b hb => ?_, fun b hb => ?_, rfl⟩⟩
  · rw [get_put, if_neg (by rintro rfl; exact hb hin)]
  · simp only [h H H2 hs, hq, Option.bind_some, some4]
  · rw [get_put, get_put]
    split
    · rfl
    · exact hs b (.inr hb)
  · rw [get_put, if_neg (by rintro rfl; exact hb hin)]
end loc
end Go.Am
namespace Go.Am
section loc

theorem Loc4.none : Loc4 fun _ => none := fun _ _ _ _ _ e => by cases e
theorem Loc4.val (v : AV) (rd : List Nat) : Loc4 fun H => some4 v H rd [] := by
  have := Loc4.pure (g := fun _ => some v) (rd := rd) (fun _ _ _ => rfl)
  exact this
/-- at most one block laid -/
def Heap.upd (H : Heap) : Option (Nat × ABlk) → Heap
  | some q => H.put q.1 q.2
  | none => H
theorem Loc4.upd {g : Heap → Option (AV × Option (Nat × ABlk))} {rd wr : List Nat} (h : ∀ H H2, (∀ b, b ∈ rd ∨ b ∈ wr → H2.get b = H.get b) → g H2 = g H) (hw : ∀ H v q, g H = some (v, some q) → q.1 ∈ wr) :
    Loc4 fun H => (g H).bind fun q => some4 q.1 (H.upd q.2) rd wr := by
  intro H v H' rd' wr' e
  obtain ⟨⟨u, q⟩, hq, e⟩ := Option.bind_eq_some_iff.1 e
  simp only [some4, Option.some.injEq, Prod.mk.injEq] at e
  obtain ⟨rfl, rfl, rfl, rfl⟩ := e
  cases q with
  | none => exact ⟨fun _ _ => rfl, rfl, fun H2 hs => ⟨H2, by simp only [h H H2 hs, hq, Option.bind_some, some4, Heap.upd], fun b hb => hs b (.inr hb), fun _ _ => rfl, rfl⟩⟩
  | some q =>
    have hin := hw H u q hq
    refine ⟨fun b hb => ?_, rfl, fun H2 hs => ⟨H2.put q.1 q.2, ?_, fun b hb => ?_, fun b hb => ?_, rfl⟩⟩
    · simp only [Heap.upd]; rw [get_put, if_neg (by rintro rfl; exact hb hin)]
    · simp only [h H H2 hs, hq, Option.bind_some, some4, Heap.upd]
    · simp only [Heap.upd]; rw [get_put, get_put]
      split
      · rfl
      · exact hs b (.inr hb)
    · rw [get_put, if_neg (by rintro rfl; exact hb hin)]

def pStoreB (P : Program) (t : TypeId) (a v : AV) (H : Heap) : Option (AV × Option (Nat × ABlk)) :=
  (size? P t).bind fun n =>
  if v.cells.length = n && v.cells.all AV.one then
    match a with
    | .hp b off => match H.get b with
      | some (.cells cs) => if off + n ≤ cs.length then some (.tup [], some (b, .cells (splice cs off v.cells))) else none
      | _ => none
    | .he b g i off => match H.get b with
      | some (.sl g' sz p es) =>
        if g = g' then (es[i]?).bind fun e =>
          if off + n ≤ e.cells.length then some (.tup [], some (b, .sl g' sz (p && v.refFree) (es.set i (reCells e (splice e.cells off v.cells))))) else none
        else none
      | _ => none
    | _ => none
  else none
theorem pStore_eq (P : Program) (t : TypeId) (a v : AV) (H : Heap) (rd wr : List Nat) : ((pStore P t a v H).bind fun H' => some4 (.tup []) H' rd wr) = (pStoreB P t a v H).bind fun q => some4 q.1 (H.upd q.2) rd wr := by
  unfold pStore pStoreB
  cases size? P t with
  | none => rfl
  | some n =>
    simp only [Option.bind_some]
    split
    · cases a with
      | hp b off =>
        simp only
        cases H.get b with
        | none => rfl
        | some x =>
          cases x with
          | cells cs => simp only; split <;> rfl
          | sl g sz p es => rfl
          | map ks vs => rfl
      | he b g i off =>
        simp only
        cases H.get b with
        | none => rfl
        | some x =>
          cases x with
          | cells cs => rfl
          | map ks vs => rfl
          | sl g' sz p es =>
            simp only
            split
            · cases es[i]? with
              | none => rfl
              | some e => simp only [Option.bind_some]; split <;> rfl
            · rfl
      | _ => rfl
    · rfl
theorem pStoreB_same {P : Program} {t : TypeId} {x v : AV} {H H2 : Heap} (h : Same x H H2) : pStoreB P t x v H2 = pStoreB P t x v H := by
  unfold pStoreB; cases x <;> simp only <;> (try rfl) <;> rw [h _ (by simp [rdOf])]
theorem pStoreB_in {P : Program} {t : TypeId} {x v u : AV} {H : Heap} {q : Nat × ABlk} (h : pStoreB P t x v H = some (u, some q)) : q.1 ∈ rdOf x := by
  unfold pStoreB at h
  obtain ⟨n, _, h⟩ := Option.bind_eq_some_iff.1 h
  split at h
  · split at h
    · split at h
      · split at h
        · cases h; simp [rdOf]
        · cases h
      · cases h
    · split at h
      · split at h
        · obtain ⟨e, _, h⟩ := Option.bind_eq_some_iff.1 h
          split at h
          · cases h; simp [rdOf]
          · cases h
        · cases h
      · cases h
    · cases h
  · cases h
theorem pStore_loc (P : Program) (t : TypeId) (a v : AV) : Loc4 fun H => (pStore P t a v H).bind fun H' => some4 (.tup []) H' [] (rdOf a) := by
  simp only [pStore_eq]
  exact Loc4.upd (fun H H2 hs => pStoreB_same fun b hb => hs b (.inr hb)) fun H v q hq => pStoreB_in hq

def pAppendB (P : Program) (t : TypeId) (xt : TypeId) (s x : AV) (nid : Nat) (H : Heap) : Option (AV × Option (Nat × ABlk)) :=
  match P.underlying t, P.underlying xt with
  | some (.slice e), some (.slice _) => (size? P e).bind fun sz => (P.info? e).bind fun inf => (zero? P e).bind fun z =>
    if sz = 0 || inf.bytes = 0 || z.cells.length ≠ sz then none else
    (rowOf x H).bind fun src =>
    if okSrc sz src then
      match s with
      | .nils | .es0 => if src.isEmpty then some (s, none) else
          if src.length * inf.bytes ≤ maxBytes then some (.hs nid 0, some (nid, .sl 0 sz (AV.refFreeL src) src)) else none
      | .hs b g => match H.get b with
        | some (.sl g' sz' p es) => if g = g' && sz' = sz then (if src.isEmpty then some (s, none) else
            if (es.length + src.length) * inf.bytes ≤ maxBytes then some (.hs b (g + 1), some (b, .sl (g + 1) sz (p && AV.refFreeL src) (es ++ src))) else none) else none
        | _ => none
      | .hq b g o n => match H.get b with
        | some (.sl g' sz' p es) => if g = g' && sz' = sz && o = 0 && n ≤ es.length then (if src.isEmpty then some (s, none) else
            if (n + src.length) * inf.bytes ≤ maxBytes then some (.hs b (g + 1), some (b, .sl (g + 1) sz (p && AV.refFreeL src) (es.take n ++ src))) else none) else none
        | _ => none
      | _ => none
    else none
  | _, _ => none
theorem pAppend_eq (P : Program) (t xt : TypeId) (s x : AV) (nid : Nat) (H : Heap) : pAppend P t xt s x nid H = (pAppendB P t xt s x nid H).map fun q => (q.1, H.upd q.2) := by
  unfold pAppend pAppendB
  cases P.underlying t with
  | none => rfl
  | some d =>
   cases d <;> (try rfl)
   rename_i e
   cases P.underlying xt with
   | none => rfl
   | some d' =>
    cases d' <;> (try rfl)
    simp only
    cases size? P e with
    | none => rfl
    | some sz =>
      cases P.info? e with
      | none => rfl
      | some inf =>
        cases zero? P e with
        | none => rfl
        | some z =>
          simp only [Option.bind_some]
          split
          · rfl
          · cases rowOf x H with
            | none => rfl
            | some src =>
              simp only [Option.bind_some]
              split
              · cases s with
                | nils => simp only; split <;> (try rfl); split <;> rfl
                | es0 => simp only; split <;> (try rfl); split <;> rfl
                | hs b g =>
                  simp only
                  cases H.get b with
                  | none => rfl
                  | some y =>
                    cases y with
                    | sl g' sz' p es => simp only; split <;> (try rfl); split <;> (try rfl); split <;> rfl
                    | cells cs => rfl
                    | map ks vs => rfl
                | hq b g o n =>
                  simp only
                  cases H.get b with
                  | none => rfl
                  | some y =>
                    cases y with
                    | sl g' sz' p es => simp only; split <;> (try rfl); split <;> (try rfl); split <;> rfl
                    | cells cs => rfl
                    | map ks vs => rfl
                | _ => rfl
              · rfl
theorem pAppendB_same {P : Program} {t xt : TypeId} {s x : AV} {nid : Nat} {H H2 : Heap} (hs : Same s H H2) (hx : Same x H H2) : pAppendB P t xt s x nid H2 = pAppendB P t xt s x nid H := by
  unfold pAppendB
  simp only [rowOf_same hx]
  cases s <;> simp only <;> (try rfl) <;> rw [hs _ (by simp [rdOf])]
theorem pAppendB_in {P : Program} {t xt : TypeId} {s x u : AV} {nid : Nat} {H : Heap} {q : Nat × ABlk} (h : pAppendB P t xt s x nid H = some (u, some q)) : q.1 ∈ nid :: rdOf s := by
  unfold pAppendB at h
  split at h
  · obtain ⟨sz, _, h⟩ := Option.bind_eq_some_iff.1 h
    obtain ⟨inf, _, h⟩ := Option.bind_eq_some_iff.1 h
    obtain ⟨z, _, h⟩ := Option.bind_eq_some_iff.1 h
    split at h
    · cases h
    · obtain ⟨src, _, h⟩ := Option.bind_eq_some_iff.1 h
      (repeat' split at h) <;> cases h <;> simp [rdOf]
  · cases h
theorem pAppend_loc (P : Program) (t xt : TypeId) (s x : AV) (nid : Nat) : Loc4 fun H => (pAppend P t xt s x nid H).bind fun q => some4 q.1 q.2 (rdOf x) (nid :: rdOf s) := by
  have : (fun H => (pAppend P t xt s x nid H).bind fun q => some4 q.1 q.2 (rdOf x) (nid :: rdOf s)) = fun H => (pAppendB P t xt s x nid H).bind fun q => some4 q.1 (H.upd q.2) (rdOf x) (nid :: rdOf s) := by
    funext H; rw [pAppend_eq]; cases pAppendB P t xt s x nid H <;> rfl
  rw [this]
  exact Loc4.upd (fun H H2 h => pAppendB_same (fun b hb => h b (.inr (by simp [hb]))) (fun b hb => h b (.inl hb))) fun H v q hq => pAppendB_in hq
end loc
end Go.Am
namespace Go.Am
section loc

def pCopyB (P : Program) (t : TypeId) (d x : AV) (H : Heap) : Option (AV × Option (Nat × ABlk)) :=
  match P.underlying t with
  | some (.slice e) => (size? P e).bind fun sz =>
    if sz = 0 then none else
    (rowOf x H).bind fun src =>
    if okSrc sz src then
      match d with
      | .hs b g => match H.get b with
        | some (.sl g' sz' p es) => if g = g' && sz' = sz then
            let c := min src.length es.length
            if c = 0 then some (.int .i64 0, none) else some (.int .i64 c, some (b, .sl g' sz' (p && AV.refFreeL src) (src.take c ++ es.drop c))) else none
        | _ => none
      | .hq b g o n => match H.get b with
        | some (.sl g' sz' p es) => if g = g' && sz' = sz && o + n ≤ es.length then
            let c := min src.length n
            if c = 0 then some (.int .i64 0, none) else some (.int .i64 c, some (b, .sl g' sz' (p && AV.refFreeL src) (es.take o ++ src.take c ++ es.drop (o + c)))) else none
        | _ => none
      | _ => none
    else none
  | _ => none
theorem pCopy_eq (P : Program) (t : TypeId) (d x : AV) (H : Heap) : pCopy P t d x H = (pCopyB P t d x H).map fun q => (q.1, H.upd q.2) := by
  unfold pCopy pCopyB
  cases P.underlying t with
  | none => rfl
  | some d' =>
    cases d' <;> (try rfl)
    rename_i e
    simp only
    cases size? P e with
    | none => rfl
    | some sz =>
      simp only [Option.bind_some]
      split
      · rfl
      · cases rowOf x H with
        | none => rfl
        | some src =>
          simp only [Option.bind_some]
          split
          · cases d with
            | hs b g =>
              simp only
              cases H.get b with
              | none => rfl
              | some y =>
                cases y with
                | sl g' sz' p es => simp only; split <;> (try rfl); split <;> rfl
                | cells cs => rfl
                | map ks vs => rfl
            | hq b g o n =>
              simp only
              cases H.get b with
              | none => rfl
              | some y =>
                cases y with
                | sl g' sz' p es => simp only; split <;> (try rfl); split <;> rfl
                | cells cs => rfl
                | map ks vs => rfl
            | _ => rfl
          · rfl
theorem pCopyB_same {P : Program} {t : TypeId} {d x : AV} {H H2 : Heap} (hd : Same d H H2) (hx : Same x H H2) : pCopyB P t d x H2 = pCopyB P t d x H := by
  unfold pCopyB
  simp only [rowOf_same hx]
  cases d <;> simp only <;> (try rfl) <;> rw [hd _ (by simp [rdOf])]
theorem pCopyB_in {P : Program} {t : TypeId} {d x u : AV} {H : Heap} {q : Nat × ABlk} (h : pCopyB P t d x H = some (u, some q)) : q.1 ∈ rdOf d := by
  unfold pCopyB at h
  split at h
  · obtain ⟨sz, _, h⟩ := Option.bind_eq_some_iff.1 h
    split at h
    · cases h
    · obtain ⟨src, _, h⟩ := Option.bind_eq_some_iff.1 h
      simp only at h
      (repeat' split at h) <;> cases h <;> simp [rdOf]
  · cases h
theorem pCopy_loc (P : Program) (t : TypeId) (d x : AV) : Loc4 fun H => (pCopy P t d x H).bind fun q => some4 q.1 q.2 (rdOf x) (rdOf d) := by
  have : (fun H => (pCopy P t d x H).bind fun q => some4 q.1 q.2 (rdOf x) (rdOf d)) = fun H => (pCopyB P t d x H).bind fun q => some4 q.1 (H.upd q.2) (rdOf x) (rdOf d) := by
    funext H; rw [pCopy_eq]; cases pCopyB P t d x H <;> rfl
  rw [this]
  exact Loc4.upd (fun H H2 h => pCopyB_same (fun b hb => h b (.inr hb)) (fun b hb => h b (.inl hb))) fun H v q hq => pCopyB_in hq

def pMapUpdateB (P : Program) (t : TypeId) (m k v : AV) (H : Heap) : Option (AV × Option (Nat × ABlk)) :=
  match P.underlying t, m with
  | some (.map kt _), .hm b => if plainKey P kt k then match H.get b with
    | some (.map ks vs) => (findK P kt k ks 0).bind fun r => match r with
      | some i => if eqInts (ks.getD i .undef) k then some (.tup [], some (b, .map ks (vs.set i v))) else none
      | none => some (.tup [], some (b, .map (ks ++ [k]) (vs ++ [v])))
    | _ => none
    else none
  | _, _ => none
theorem pMapUpdate_eq (P : Program) (t : TypeId) (m k v : AV) (H : Heap) : pMapUpdate P t m k v H = (pMapUpdateB P t m k v H).map fun q => H.upd q.2 := by
  unfold pMapUpdate pMapUpdateB
  cases P.underlying t with
  | none => rfl
  | some d' =>
    cases d' <;> (try rfl)
    cases m <;> (try rfl)
    rename_i kt _ b
    simp only
    split
    · cases H.get b with
      | none => rfl
      | some y =>
        cases y with
        | map ks vs =>
          simp only
          cases findK P kt k ks 0 with
          | none => rfl
          | some r =>
            cases r with
            | none => rfl
            | some i => simp only [Option.bind_some]; split <;> rfl
        | cells cs => rfl
        | sl g sz p es => rfl
    · rfl
theorem pMapUpdateB_same {P : Program} {t : TypeId} {m k v : AV} {H H2 : Heap} (hd : Same m H H2) : pMapUpdateB P t m k v H2 = pMapUpdateB P t m k v H := by
  unfold pMapUpdateB
  cases P.underlying t with
  | none => rfl
  | some d' =>
    cases d' <;> (try rfl)
    cases m <;> (try rfl)
    simp only
    rw [hd _ (by simp [rdOf])]
theorem pMapUpdateB_in {P : Program} {t : TypeId} {m k v u : AV} {H : Heap} {q : Nat × ABlk} (h : pMapUpdateB P t m k v H = some (u, some q)) : q.1 ∈ rdOf m := by
  unfold pMapUpdateB at h
  split at h
  · split at h
    · split at h
      · obtain ⟨r, _, h⟩ := Option.bind_eq_some_iff.1 h
        (repeat' split at h) <;> cases h <;> simp [rdOf]
      · cases h
    · cases h
  · cases h
theorem pMapUpdate_loc (P : Program) (t : TypeId) (m k v : AV) : Loc4 fun H => (pMapUpdate P t m k v H).bind fun H' => some4 (.tup []) H' [] (rdOf m) := by
  intro H u H' rd wr e
  obtain ⟨H1, h1, e⟩ := Option.bind_eq_some_iff.1 e
  rw [pMapUpdate_eq] at h1
  obtain ⟨⟨u0, q⟩, hq, rfl⟩ := Option.map_eq_some_iff.1 h1
  have hu : u0 = .tup [] := by
    unfold pMapUpdateB at hq
    split at hq
    · split at hq
      · split at hq
        · obtain ⟨r, _, hq⟩ := Option.bind_eq_some_iff.1 hq
          (repeat' split at hq) <;> cases hq <;> rfl
        · cases hq
      · cases hq
    · cases hq
  subst hu
  obtain ⟨a1, a2, a3⟩ := Loc4.upd (g := pMapUpdateB P t m k v) (rd := []) (wr := rdOf m) (fun H H2 h => pMapUpdateB_same fun b hb => h b (.inr hb)) (fun H v q hq => pMapUpdateB_in hq) H u H' rd wr (by show (pMapUpdateB P t m k v H).bind _ = _; rw [hq]; exact e)
  refine ⟨a1, a2, fun H2 hs => ?_⟩
  obtain ⟨H2', b1, b2⟩ := a3 H2 hs
  obtain ⟨⟨u1, q1⟩, hq1, b1⟩ := Option.bind_eq_some_iff.1 b1
  simp only [some4, Option.some.injEq, Prod.mk.injEq] at b1 e
  obtain ⟨rfl, rfl, rfl, rfl⟩ := b1
  obtain ⟨rfl, rfl, _, _⟩ := e
  refine ⟨H2.upd q1, ?_, b2⟩
  show (pMapUpdate P t m k v H2).bind _ = _
  rw [pMapUpdate_eq, hq1]; rfl
end loc
end Go.Am
