/-
  XTyped's law where operations may be guarded; no function of the program.
-/
import Derived.Test.YtgdcfhifiincaaaTyped
namespace Go.Proofs.Ytgdcfhifiincaaa
open Go.RowKit
set_option linter.unusedVariables false

/-- The closed test on a region: the first m operations have no guard, destinations of their own, and look at what their edges name; the others come behind them, one by one. -/
def tchkG (ops : Array Oper) (m0 m N : Nat) : Bool :=
  decide (m0 ≤ m) && decide (m ≤ ops.size) &&
  (List.range m).all (fun i => decide (i < m0) || match ops[i]? with
    | none => false
    | some o => (match o.guard with | none => true | some (gi, _) => decide (m0 ≤ gi) && decide (gi < m) && o.after.toList.any (fun e => Region.binds .any e && e.on == gi)) && (match o.dst with | none => true | some d => decide (d < N) && (List.range m).all (fun j => decide (j < m0) || i == j || dstAt ops j != some d))
      && o.op.operands.toList.all (fun x => match x with
        | .tmp t => (List.range m).all (fun j => decide (j < m0) || dstAt ops j != some t) || o.after.toList.any (fun e => Region.binds .any e && decide (m0 ≤ e.on) && decide (e.on < m) && dstAt ops e.on == some t)
        | _ => true)) &&
  (List.range ops.size).all (fun i => match ops[i]? with
    | none => false
    | some o => o.after.toList.all (fun e => !Region.binds .any e || decide (e.on < i))) &&
  (List.range ops.size).all (fun i => decide (i < m) || (List.range m).all (fun j => (markGo ops (i + 1) [i]).contains j))

section
variable {P : Program} {ops : Array Oper} {Q : Exit → Act → World → Prop}
/-- One operation, shown by itself: where its guard says no, it is passed over. -/
def TStepG (P : Program) (ops : Array Oper) (Q : Exit → Act → World → Prop) (TS : Nat → Value → World → Prop) (X : Nat → World → Prop) (G : Nat → World → Prop) (N i : Nat) (o : Oper) : Prop :=
  ∀ (b : Act) (w : World) (p : Nat), p < N → G p w → (∀ t, Operand.tmp t ∈ o.op.operands.toList → TS t (b.tmps.getD t undef) w) → (∀ gi gb, o.guard = some (gi, gb) → ∀ d, dstAt ops gi = some d → TS d (b.tmps.getD d undef) w) → ∀ K : Act → World → Prop,
    (∀ v w', G (p + 1) w' → (∀ s u, TS s u w → TS s u w') → (∀ j, j ≠ i → X j w → X j w') → (∀ d, o.dst = some d → TS d v w') → X i w' → K (b.put o.dst v) w') →
    (Region.wanted o (yielded ops b.tmps) = true → o.wp P b w K Q) ∧ (Region.wanted o (yielded ops b.tmps) = false → K (b.put o.dst undef) w)
theorem wpG {o : Oper} {b : Act} {w : World} {K : Act → World → Prop} (h : (Region.wanted o (yielded ops b.tmps) = true → o.wp P b w K Q) ∧ (Region.wanted o (yielded ops b.tmps) = false → K (b.put o.dst undef) w)) :
    if Region.wanted o (yielded ops b.tmps) then o.wp P b w K Q ∨ (o.asks P b w ∧ LetsOut Q) else K (b.put o.dst undef) w := by
  cases hw : Region.wanted o (yielded ops b.tmps) with
  | true => exact .inl (h.1 hw)
  | false => exact h.2 hw
def TStepsG (P : Program) (ops : Array Oper) (Q : Exit → Act → World → Prop) (TS : Nat → Value → World → Prop) (X : Nat → World → Prop) (G : Nat → World → Prop) (N : Nat) : Nat → List Oper → Prop
  | _, [] => True
  | i, o :: r => TStepG P ops Q TS X G N i o ∧ TStepsG P ops Q TS X G N (i + 1) r
theorem TStepsG.at_ {TS : Nat → Value → World → Prop} {X : Nat → World → Prop} {G : Nat → World → Prop} {N : Nat} : ∀ (l : List Oper) (k i : Nat) (o : Oper), TStepsG P ops Q TS X G N k l → l[i]? = some o → TStepG P ops Q TS X G N (k + i) o
  | [], _, _, _, _, h => by simp at h
  | o :: r, k, 0, o', h, hh => by simp at hh; subst hh; exact h.1
  | o :: r, k, i + 1, o', h, hh => by
    have := TStepsG.at_ r (k + 1) i o' h.2 (by simpa using hh)
    rwa [show k + 1 + i = k + (i + 1) from by omega] at this
theorem tchkG_spec {ops : Array Oper} {m0 m N : Nat} (h : tchkG ops m0 m N = true) :
    m0 ≤ m ∧ m ≤ ops.size ∧
    (∀ i, m0 ≤ i → i < m → ∀ o, ops[i]? = some o → (∀ gi gb, o.guard = some (gi, gb) → m0 ≤ gi ∧ gi < m ∧ ∃ e ∈ o.after, Region.binds .any e = true ∧ e.on = gi) ∧ (∀ d, o.dst = some d → d < N ∧ ∀ j, m0 ≤ j → j < m → j ≠ i → dstAt ops j ≠ some d) ∧
      (∀ t, Operand.tmp t ∈ o.op.operands.toList → (∀ j, m0 ≤ j → j < m → dstAt ops j ≠ some t) ∨ ∃ e ∈ o.after, Region.binds .any e = true ∧ m0 ≤ e.on ∧ e.on < m ∧ dstAt ops e.on = some t)) ∧
    (∀ i o, ops[i]? = some o → ∀ e ∈ o.after, Region.binds .any e = true → e.on < i) ∧
    (∀ i, m ≤ i → i < ops.size → ∀ j, j < m → j ∈ markGo ops (i + 1) [i]) := by
  unfold tchkG at h
  simp only [Bool.and_eq_true, decide_eq_true_eq] at h
  obtain ⟨⟨⟨⟨h00, h0⟩, h1⟩, h2⟩, h3⟩ := h
  refine ⟨h00, h0, ?_, ?_, ?_⟩
  · intro i hi0 hi o ho
    have := List.all_eq_true.1 h1 i (List.mem_range.2 hi)
    rw [ho] at this
    rcases Bool.or_eq_true_iff.1 this with hh | this
    · simp at hh; omega
    simp only [Bool.and_eq_true] at this
    obtain ⟨⟨a1, a2⟩, a3⟩ := this
    refine ⟨?_, ?_, ?_⟩
    · intro gi gb hg
      rw [hg] at a1
      simp only [Bool.and_eq_true, decide_eq_true_eq] at a1
      obtain ⟨⟨b1, b2⟩, b3⟩ := a1
      obtain ⟨e, he, hh⟩ := List.any_eq_true.1 b3
      simp only [Bool.and_eq_true] at hh
      exact ⟨b1, b2, e, Array.mem_toList_iff.1 he, hh.1, by simpa using hh.2⟩
    · intro d hd
      rw [hd] at a2
      simp only [Bool.and_eq_true, decide_eq_true_eq] at a2
      refine ⟨a2.1, fun j hj0 hj hne => ?_⟩
      have := List.all_eq_true.1 a2.2 j (List.mem_range.2 hj)
      simp at this
      rcases this with (hh | hh) | hh
      · omega
      · exact absurd hh.symm hne
      · exact hh
    · intro t ht
      have := List.all_eq_true.1 a3 _ ht
      simp only [Bool.or_eq_true] at this
      rcases this with hh | hh
      · left
        intro j hj0 hj
        have := List.all_eq_true.1 hh j (List.mem_range.2 hj)
        simp at this
        rcases this with h' | h'
        · omega
        · exact h'
      · right
        obtain ⟨e, he, hh⟩ := List.any_eq_true.1 hh
        simp only [Bool.and_eq_true, decide_eq_true_eq] at hh
        exact ⟨e, Array.mem_toList_iff.1 he, hh.1.1.1, hh.1.1.2, hh.1.2, by simpa using hh.2⟩
  · intro i o ho e he hb
    have hlt : i < ops.size := (Array.getElem?_eq_some_iff.1 ho).1
    have := List.all_eq_true.1 h2 i (List.mem_range.2 hlt)
    rw [ho] at this
    have := List.all_eq_true.1 this e (Array.mem_toList_iff.2 he)
    simpa [hb] using this
  · intro i hmi hi j hj
    have := List.all_eq_true.1 h3 i (List.mem_range.2 hi)
    rcases Bool.or_eq_true_iff.1 this with hh | hh
    · simp at hh; omega
    · exact List.contains_iff_mem.1 (List.all_eq_true.1 hh j (List.mem_range.2 hj))

theorem wpAny_typedG {a : Act} {TS : Nat → Value → World → Prop} {X : Nat → World → Prop} {G : Nat → World → Prop} {m0 m : Nat} (chk : tchkG ops m0 m a.tmps.size = true)
    (hG : ∀ p p' w, p ≤ p' → G p w → G p' w)
    (steps : ∀ i o, m0 ≤ i → i < m → ops[i]? = some o → TStepG P ops Q TS X G ops.size i o)
    (done : ∀ fuel listed vs w', Upto ops m listed → ops.size = fuel + m → G ops.size w' → (∀ i d, m0 ≤ i → i < m → dstAt ops i = some d → TS d (vs d) w') → (∀ t, (∀ i, m0 ≤ i → i < m → dstAt ops i ≠ some t) → TS t (a.tmps.getD t undef) w') → (∀ i, m0 ≤ i → i < m → X i w') → wpAny P .any ops Q fuel listed (putL ((List.range' m0 (m - m0)).map (dstAt ops)) vs a) w') :
    ∀ (fuel : Nat) (listed : Array Bool) (b : Act) (w : World) (cnt : Nat), cnt + fuel = ops.size → TInv ops m0 m a TS X G listed b w cnt → wpAny P .any ops Q fuel listed b w := by
  obtain ⟨c00, c0, c1, c2, c3⟩ := tchkG_spec chk
  intro fuel
  -- all of the first m are done
  have fin : ∀ (fuel : Nat) (listed : Array Bool) (b : Act) (w : World) (cnt : Nat), cnt + fuel = ops.size → TInv ops m0 m a TS X G listed b w cnt → (∀ j, j < m → listed.getD j false = true) → wpAny P .any ops Q fuel listed b w := by
    intro fuel listed b w cnt hf I hall
    have hb : b = putL ((List.range' m0 (m - m0)).map (dstAt ops)) (fun s => b.tmps.getD s undef) a := by
      have hs : b.tmps = (putL ((List.range' m0 (m - m0)).map (dstAt ops)) (fun s => b.tmps.getD s undef) a).tmps := by
        apply Array.ext_getElem?
        intro s
        rcases Nat.lt_or_ge s a.tmps.size with hlt | hge
        · rw [putL_get _ _ _ _ hlt]
          split
          · rw [Array.getD_eq_getD_getElem?, Array.getElem?_eq_getElem (by rw [I.tsz]; exact hlt)]
            rfl
          · rename_i hn
            refine I.un s fun i hi0 hi _ he => hn ?_
            exact List.mem_map.2 ⟨i, List.mem_range'_1.2 ⟨hi0, by omega⟩, he⟩
        · rw [Array.getElem?_eq_none (by rw [I.tsz]; exact hge), Array.getElem?_eq_none (by rw [putL_size]; exact hge)]
      have hd := putL_defers ((List.range' m0 (m - m0)).map (dstAt ops)) (fun s => b.tmps.getD s undef) a
      have hd' := I.df
      exact act_eq hs (hd'.trans hd.symm)
    have hcm2 : cnt = m := by
      rw [← I.ct]
      refine countP_upto _ _ (by rw [Array.length_toList, I.sz]; exact c0) (fun i hi => ?_)
      have hi' : i < listed.size := by simpa using hi
      constructor
      · intro h
        rcases Nat.lt_or_ge i m with h' | h'
        · exact h'
        · have := I.tl i h'
          rw [Array.getD_eq_getD_getElem?, Array.getElem?_eq_getElem hi'] at this
          simp at this h
          rw [h] at this
          cases this
      · intro h
        have := hall i h
        rw [Array.getD_eq_getD_getElem?, Array.getElem?_eq_getElem hi'] at this
        simpa using this
    rw [hb]
    refine done fuel listed _ w ⟨I.sz, ?_⟩ (by omega) (hG _ _ _ (by omega) I.g) (fun i d hi0 hi hd => I.ty i d hi0 hi (hall i hi) hd) ?_ (fun i hi0 hi => I.xs i hi0 hi (hall i hi))
    · intro i hi
      constructor
      · intro h
        rcases Nat.lt_or_ge i m with h' | h'
        · exact h'
        · rw [I.tl i h'] at h; cases h
      · exact hall i
    · intro t ht
      have h1 := I.fr t ht
      have h2 := I.un t (fun i hi0 hi _ => ht i hi0 hi)
      rw [Array.getD_eq_getD_getElem?, h2, ← Array.getD_eq_getD_getElem?] at h1
      exact h1
  have hdec : ∀ listed : Array Bool, (∀ j, j < m → listed.getD j false = true) ∨ ∃ j, j < m ∧ listed.getD j false = false := by
    intro listed
    by_cases h : ∀ j, j < m → listed.getD j false = true
    · exact .inl h
    · right
      simp only [Classical.not_forall] at h
      obtain ⟨j, hj, h⟩ := h
      exact ⟨j, hj, by simpa using h⟩
  induction fuel with
  | zero =>
    intro listed b w cnt hf I
    rcases hdec listed with hall | ⟨j, hj, hjf⟩
    · exact fin 0 listed b w cnt hf I hall
    · exfalso
      have h1 : listed.toList.countP (· = true) = listed.toList.length := by rw [I.ct, Array.length_toList, I.sz]; omega
      have h2 := List.countP_eq_length.1 h1
      have hjl : j < listed.size := by rw [I.sz]; omega
      have h3 := h2 listed[j] (Array.mem_toList_iff.2 (Array.getElem_mem hjl))
      rw [Array.getD_eq_getD_getElem?, Array.getElem?_eq_getElem hjl] at hjf
      simp at hjf h3
      rw [h3] at hjf
      cases hjf
  | succ fuel ih =>
    intro listed b w cnt hf I
    rcases hdec listed with hall | ⟨j, hj, hjf⟩
    · exact fin (fuel + 1) listed b w cnt hf I hall
    · refine ⟨?_, ?_⟩
      · intro h0
        exfalso
        -- the least that is not done is ready
        have hex : ∃ j, j < m ∧ listed.getD j false = false ∧ ∀ k, k < j → listed.getD k false = true := by
          clear h0
          induction j using Nat.strongRecOn with
          | _ j IH =>
            by_cases hk : ∃ k, k < j ∧ listed.getD k false = false
            · obtain ⟨k, hk1, hk2⟩ := hk
              exact IH k hk1 (by omega) hk2
            · refine ⟨j, hj, hjf, fun k hk1 => ?_⟩
              cases hv : listed.getD k false with
              | true => rfl
              | false => exact absurd ⟨k, hk1, hv⟩ hk
        obtain ⟨j, hj, hjf, hmin⟩ := hex
        have hjs : j < ops.size := by omega
        have hr : j ∈ Region.ready .any ops listed := by
          refine mem_ready.2 ⟨?_, ops[j], Array.getElem?_eq_getElem hjs, fun e he hb => hmin _ (c2 j _ (Array.getElem?_eq_getElem hjs) e he hb)⟩
          rw [Array.getD_eq_getD_getElem?, Array.getElem?_eq_getElem (by rw [I.sz]; exact hjs)] at hjf ⊢
          simpa using hjf
        rw [h0] at hr
        cases hr
      · intro i hi
        obtain ⟨hu, o, ho, hdeps⟩ := mem_ready.1 hi
        have hilt : i < ops.size := (Array.getElem?_eq_some_iff.1 ho).1
        obtain ⟨hisz, hif⟩ := getD_of_unlisted hu
        rcases Nat.lt_or_ge i m with him | him
        · have him0 : m0 ≤ i := by
            rcases Nat.lt_or_ge i m0 with h' | h'
            · rw [I.pre i h'] at hif; cases hif
            · exact h'
          obtain ⟨g1, g2, g3⟩ := c1 i him0 him o ho
          unfold wpOp
          rw [ho]
          refine wpG (steps i o him0 him ho b w cnt (by omega) I.g ?_ ?_ _ ?_)
          · intro t ht
            rcases g3 t ht with hh | ⟨e, he, hb, hem0, hem, hed⟩
            · exact I.fr t hh
            · exact I.ty e.on t hem0 hem (hdeps e he hb) hed
          · intro gi gb hgd d hd
            obtain ⟨h1, h2, e, he, hb, heq⟩ := g1 gi gb hgd
            subst heq
            exact I.ty e.on d h1 h2 (hdeps e he hb) hd
          · intro v w' hg hts hxs hd hx
            have hset : ∀ j, j ≠ i → (listed.setIfInBounds i true).getD j false = listed.getD j false := fun j hne => getD_set_ne false (Ne.symm hne)
            have hself : (listed.setIfInBounds i true).getD i false = true := by simp [Array.getD_eq_getD_getElem?, hisz]
            refine ih _ _ _ (cnt + 1) (by omega) ⟨by simpa using I.sz, ?_, ?_, hg, ?_, ?_, ?_, ?_, ?_, ?_, ?_, ?_⟩
            · rw [← I.tsz]; unfold Act.put; split <;> simp
            · rw [← I.df]; unfold Act.put; split <;> rfl
            · have hl : i < listed.toList.length := by simpa using hisz
              rw [Array.toList_setIfInBounds, List.countP_set hl]
              have hf' : listed.toList[i] = false := by
                rw [Array.getD_eq_getD_getElem?, Array.getElem?_eq_getElem hisz] at hif
                simpa using hif
              rw [hf', I.ct]
              simp
            · intro s hs
              have hne : ∀ d, o.dst = some d → d ≠ s := fun d hd' e => hs i him0 him hself (by unfold dstAt; rw [ho]; simp [hd', e])
              have : (b.put o.dst v).tmps[s]? = b.tmps[s]? := by
                unfold Act.put
                split
                · rename_i d hd'
                  exact Array.getElem?_setIfInBounds_ne (hne d hd')
                · rfl
              rw [this]
              refine I.un s fun j hj0 hj hjl => ?_
              by_cases hji : j = i
              · subst hji; rw [hif] at hjl; cases hjl
              · exact hs j hj0 hj (by rw [hset j hji]; exact hjl)
            · intro j d hj0 hj hjl hjd
              by_cases hji : j = i
              · subst hji
                have hod : o.dst = some d := by unfold dstAt at hjd; rw [ho] at hjd; simpa using hjd
                have hdN := (g2 d hod).1
                have : (b.put o.dst v).tmps.getD d undef = v := by
                  rw [hod]
                  simp [Act.put, Array.getD_eq_getD_getElem?, I.tsz, hdN]
                rw [this]
                exact hd d hod
              · rw [hset j hji] at hjl
                have h1 := hts d _ (I.ty j d hj0 hj hjl hjd)
                have : (b.put o.dst v).tmps.getD d undef = b.tmps.getD d undef := by
                  unfold Act.put
                  split
                  · rename_i d' hd'
                    have hne : d' ≠ d := by
                      rintro rfl
                      exact (g2 d' hd').2 j hj0 hj hji hjd
                    simp [Array.getD_eq_getD_getElem?, Array.getElem?_setIfInBounds_ne hne]
                  · rfl
                rw [this]
                exact h1
            · intro t ht
              have h1 := hts t _ (I.fr t ht)
              have : (b.put o.dst v).tmps.getD t undef = b.tmps.getD t undef := by
                unfold Act.put
                split
                · rename_i d' hd'
                  have hne : d' ≠ t := by
                    rintro rfl
                    exact ht i him0 him (by unfold dstAt; rw [ho]; simpa using hd')
                  simp [Array.getD_eq_getD_getElem?, Array.getElem?_setIfInBounds_ne hne]
                · rfl
              rw [this]
              exact h1
            · intro j hj0 hj hjl
              by_cases hji : j = i
              · subst hji; exact hx
              · rw [hset j hji] at hjl
                exact hxs j hji (I.xs j hj0 hj hjl)
            · intro j hj
              rw [hset j (by omega)]
              exact I.pre j hj
            · intro j hj
              rw [hset j (by omega)]
              exact I.tl j hj
            · intro j o' hjl ho' e he hb
              by_cases hji : j = i
              · subst hji
                rw [ho] at ho'
                cases ho'
                exact getD_set_true (hdeps e he hb)
              · rw [hset j hji] at hjl
                exact getD_set_true (I.cl j o' hjl ho' e he hb)
        · exfalso
          have hmem := c3 i him hilt j hj
          have := mark_sound (ops := ops) (fun k => listed.getD k false = true) i (fun k o' hk ho' e he hb => by
            rcases hk with hk | rfl
            · exact I.cl k o' hk ho' e he hb
            · rw [ho] at ho'
              cases ho'
              exact hdeps e he hb) (i + 1) [i] (by simp) j hmem
          rcases this with hh | hh
          · rw [hjf] at hh; cases hh
          · omega


/-- THE LAW: a region that draws its order, with guards, all its operations shown one by one. -/
theorem wp_region_typedG {id : Nat} {a : Act} {W : World} (hm : P.follows .mixedOrders = true) (TS : Nat → Value → World → Prop) (X : Nat → World → Prop) (G : Nat → World → Prop) (N : Nat) (hN : ops.size = N) (ds : List (Option Tmp)) (chk : tchkG ops 0 ops.size a.tmps.size = true) (hds : (List.range' 0 (ops.size - 0)).map (dstAt ops) = ds)
    (hG : ∀ p p' w, p ≤ p' → G p w → G p' w) (h0 : G 0 W.drew) (hfr : ∀ t, (∀ i, 0 ≤ i → i < ops.size → dstAt ops i ≠ some t) → TS t (a.tmps.getD t undef) W.drew)
    (steps : TStepsG P ops Q TS X G N 0 ops.toList)
    (done : ∀ vs w', G N w' → (∀ i d, 0 ≤ i → i < N → dstAt ops i = some d → TS d (vs d) w') → (∀ i, 0 ≤ i → i < N → X i w') → Q .normal (putL ds vs a) w') :
    (Code.region id ops true).wp P Q a W := by
  subst hds hN
  refine wp_region_any hm ?_
  refine wpAny_typedG (TS := TS) (X := X) chk hG ?_ (fun fuel listed vs w' hu hf h1 h2 h3 h4 => ?_) ops.size _ a _ 0 (by omega) ⟨by simp, rfl, rfl, h0, ?_, fun s _ => rfl, ?_, hfr, ?_, fun i hi => by omega, ?_, ?_⟩
  · intro i o _ hi ho
    have := TStepsG.at_ ops.toList 0 i o steps (by simpa using ho)
    simpa using this
  · have hr : Region.ready .any ops listed = [] := by
      rw [List.eq_nil_iff_forall_not_mem]
      intro i hi
      obtain ⟨hx, o, ho, _⟩ := mem_ready.1 hi
      have hlt : i < ops.size := (Array.getElem?_eq_some_iff.1 ho).1
      have h5 := (getD_of_unlisted hx).2
      have h6 := (hu.2 i hlt).2 hlt
      rw [h5] at h6
      cases h6
    exact wpAny_done hr (done vs w' h1 h2 h4) fuel
  · rw [List.countP_eq_zero]
    intro x hx
    simp at hx
    simp [hx.2]
  · intro i d _ hi h
    rw [Array.getD_eq_getD_getElem?, Array.getElem?_replicate] at h
    split at h <;> simp at h
  · intro i _ hi h
    rw [Array.getD_eq_getD_getElem?, Array.getElem?_replicate] at h
    split at h <;> simp at h
  · intro i hi
    rw [Array.getD_eq_getD_getElem?, Array.getElem?_replicate]
    split <;> rfl
  · intro i o h
    rw [Array.getD_eq_getD_getElem?, Array.getElem?_replicate] at h
    split at h <;> simp at h
end
end Go.Proofs.Ytgdcfhifiincaaa
