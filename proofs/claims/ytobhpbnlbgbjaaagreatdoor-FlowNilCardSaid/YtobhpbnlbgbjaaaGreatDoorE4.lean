/- Regions that draw their order: what the text's order has done, as a list of entries. -/
import Derived.Test.YtobhpbnlbgbjaaaGreatDoorE3
import Derived.Test.YtobhpbnlbgbjaaaGreatDoorEm
set_option linter.unusedSectionVars false
set_option linter.unusedSimpArgs false
set_option linter.unusedVariables false
set_option linter.unusedSimpArgs false
namespace Go.Proofs.YtobhpbnlbgbjaaaGreatDoor
open Go Go.RowKit
set_option linter.unusedSectionVars false
variable [mode : Inhabited ModeT]

section
variable {P : Program} {callf : CallF} {ops : Array Oper} {N : Nat}

theorem keep_len {x : Option AV} {h h' : Heap} {v : AV} (h1 : (x.map fun v => (v, h)) = some (v, h')) : h' = h := by
  cases x with
  | none => cases h1
  | some y => cases h1; rfl

theorem onlyReads_keeps {ts : List AV} {o : Oper} {place : Option Nat} {h h' : Heap} {v : AV} (hr : onlyReads o.op = true) (h1 : oneOp P callf ops place o ts h = some (v, h')) : h' = h := by
  unfold oneOp at h1
  split at h1
  · unfold onlyReads at hr
    split at hr
    · rename_i hop
      rw [hop] at h1
      simp only [stepOp] at h1
      split at h1
      · exact (keep_some h1).2
      · exact nomatch h1
    · rename_i hop
      rw [hop] at h1
      simp only [stepOp] at h1
      split at h1
      · exact (keep_some h1).2
      · exact (keep_some h1).2
      · exact nomatch h1
    · rename_i hop
      rw [hop] at h1
      simp only [stepOp] at h1
      split at h1
      · exact (keep_some h1).2
      · exact nomatch h1
    · rename_i c hop
      rw [hop] at h1
      simp only [stepOp, callA] at h1
      split at hr
      · rename_i hc
        rw [hc] at h1
        split at h1
        · exact nomatch h1
        · simp only [builtinA] at h1
          split at h1
          all_goals first
            | contradiction
            | exact (keep_len h1)
            | (cases h1; done)
            | (cases h1; rfl)
      · rename_i hc
        rw [hc] at h1
        split at h1
        · exact nomatch h1
        · simp only [builtinA] at h1
          split at h1
          all_goals first
            | contradiction
            | (cases h1; rfl)
            | (cases h1; done)
      · exact nomatch hr
    · exact nomatch hr
  · cases h1; rfl
  · exact nomatch h1

mutual
theorem D.same_ok : ∀ {a b : D}, a.same b = true → a = b
  | .bool a, .bool b, h => by simp [D.same] at h; rw [h]
  | .int k n, .int k' n', h => by simp [D.same] at h; rw [h.1, h.2]
  | .str a, .str b, h => by simp [D.same] at h; rw [h]
  | .nils, .nils, _ => rfl
  | .slice es, .slice es', h => by simp only [D.same] at h; rw [D.sameL_ok h]
  | .agg es, .agg es', h => by simp only [D.same] at h; rw [D.sameL_ok h]
  | .bool _, .int _ _, h | .bool _, .str _, h | .bool _, .nils, h | .bool _, .slice _, h | .bool _, .agg _, h => by simp [D.same] at h
  | .int _ _, .bool _, h | .int _ _, .str _, h | .int _ _, .nils, h | .int _ _, .slice _, h | .int _ _, .agg _, h => by simp [D.same] at h
  | .str _, .bool _, h | .str _, .int _ _, h | .str _, .nils, h | .str _, .slice _, h | .str _, .agg _, h => by simp [D.same] at h
  | .nils, .bool _, h | .nils, .int _ _, h | .nils, .str _, h | .nils, .slice _, h | .nils, .agg _, h => by simp [D.same] at h
  | .slice _, .bool _, h | .slice _, .int _ _, h | .slice _, .str _, h | .slice _, .nils, h | .slice _, .agg _, h => by simp [D.same] at h
  | .agg _, .bool _, h | .agg _, .int _ _, h | .agg _, .str _, h | .agg _, .nils, h | .agg _, .slice _, h => by simp [D.same] at h
theorem D.sameL_ok : ∀ {a b : List D}, D.sameL a b = true → a = b
  | [], [], _ => rfl
  | a :: r, b :: q, h => by
    simp only [D.sameL, Bool.and_eq_true] at h
    rw [D.same_ok h.1, D.sameL_ok h.2]
  | [], _ :: _, h => by simp [D.sameL] at h
  | _ :: _, [], h => by simp [D.sameL] at h
end

theorem AV.same_ok {a b : AV} (h : a.same b = true) : a = b := by
  unfold AV.same at h
  split at h
  · rw [D.same_ok h]
  · simp at h; obtain ⟨⟨rfl, rfl⟩, rfl⟩ := h; rfl
  · simp at h; obtain ⟨⟨⟨⟨rfl, rfl⟩, rfl⟩, rfl⟩, rfl⟩ := h; rfl
  · rfl
  · rfl
  · simp at h; rw [h]
  · rfl
  · rfl
  · cases h

theorem sameL_ok : ∀ {a b : List AV}, sameL a b = true → a = b
  | [], [], _ => rfl
  | a :: r, b :: q, h => by
    simp only [sameL, Bool.and_eq_true] at h
    rw [AV.same_ok h.1, sameL_ok h.2]
  | [], _ :: _, h => by simp [sameL] at h
  | _ :: _, [], h => by simp [sameL] at h

theorem AObj.same_ok {a b : AObj} (h : a.same b = true) : a = b := by
  unfold AObj.same at h
  split at h
  · simp only [Bool.and_eq_true, beq_iff_eq] at h
    obtain ⟨⟨⟨⟨⟨rfl, rfl⟩, rfl⟩, rfl⟩, rfl⟩, h6⟩ := h
    rw [sameL_ok h6]
  · cases h

theorem sameAt_ok {h h' : Heap} {i : Nat} (hs : sameAt h h' i = true) : h'[i]? = h[i]? := by
  unfold sameAt at hs
  split at hs
  · rename_i a b h1 h2; rw [h1, h2, AObj.same_ok hs]
  · cases hs

theorem writesIn_sub {op : Op} {F : List Nat} {h h' : Heap} {i : Nat} (hw : (writesIn op F h h').contains i = true) : F.contains i = true := by
  unfold writesIn at hw
  split at hw
  · simp at hw
  · split at hw
    · simp only [List.contains_iff_mem, List.mem_filter] at hw ⊢; exact hw.1
    · exact hw

theorem writesIn_keeps {ts : List AV} {o : Oper} {place : Option Nat} {F : List Nat} {h h0 h' : Heap} {v v0 : AV} {L s : Nat} (h1 : oneOp P callf ops place o ts h = some (v0, h0)) (hN : h.length = N) (hse : settleC N L s v0 h0 = some (v, h')) {i : Nat} (hf : F.contains i = true) (hw : (writesIn o.op F h h').contains i = false) : h'[i]? = h[i]? := by
  unfold writesIn at hw
  split at hw
  · rename_i hr
    obtain rfl := onlyReads_keeps hr h1
    unfold settleC at hse
    rw [if_pos hN] at hse
    cases hse; rfl
  · split at hw
    · refine sameAt_ok ?_
      cases hs : sameAt h h' i with
      | true => rfl
      | false =>
        have : (F.filter fun i => !sameAt h h' i).contains i = true := by
          simp only [List.contains_iff_mem, List.mem_filter] at hf ⊢
          exact ⟨hf, by simp [hs]⟩
        rw [this] at hw; cases hw
    · rw [hf] at hw; cases hw

structure EntOk (P : Program) (callf : CallF) (ops : Array Oper) (N : Nat) (k : Nat) (o : Oper) (e : Ent) (ts : List AV) (h : Heap) : Prop where
  one : oneOp P callf ops e.place o ts (restrictA e.d.foot 0 h) = some (e.v0, e.h0)
  settle : settleC N e.lv e.at_ e.v0 e.h0 = some (e.v, e.h)
  excl : e.place = none ∨ e.lv = 0
  len : e.h.length = N
  holes : holesA e.d.foot 0 e.h = true
  reads : e.d.reads = readsOf ops o
  dst : e.d.dst = o.dst
  wsub : ∀ i, e.d.writes.contains i = true → e.d.foot.contains i = true
  wkeep : ∀ i, e.d.foot.contains i = true → e.d.writes.contains i = false → e.h[i]? = (restrictA e.d.foot 0 h)[i]?
  place : ∀ r, e.place = some r → e.d.foot.contains r = true
  edges : ∀ x, x ∈ o.after.toList → Region.binds .any x = true → x.on < k

inductive Logs (P : Program) (callf : CallF) (ops : Array Oper) (N : Nat) : Nat → List Oper → List Ent → St → St → Prop where
  | nil (k : Nat) (s : St) : Logs P callf ops N k [] [] s s
  | cons {k : Nat} {o : Oper} {l : List Oper} {e : Ent} {es : List Ent} {s s' : St} (h : EntOk P callf ops N k o e s.tmps s.heap) (hr : Logs P callf ops N (k + 1) l es ⟨putA s.tmps o.dst e.v, setIds s.heap e.h e.d.writes⟩ s') : Logs P callf ops N k (o :: l) (e :: es) s s'

theorem putA_get (ts : List AV) (dst : Option Tmp) (v : AV) (t : Nat) : (putA ts dst v)[t]? = if dst == some t then ts[t]?.map (fun _ => v) else ts[t]? := by
  cases dst with
  | none => rfl
  | some d =>
    simp only [putA, List.getElem?_set]
    by_cases hd : d = t
    · subst hd
      simp
      by_cases hl : d < ts.length
      · simp [hl]
      · simp [hl]
    · simp [hd]

theorem setIds_get : ∀ {W : List Nat} {h h' : Heap}, h'.length = h.length → (setIds h h' W).length = h.length ∧ ∀ id : Nat, (setIds h h' W)[id]? = if W.contains id then h'[id]? else h[id]?
  | [], h, h', _ => ⟨rfl, fun id => by simp [setIds]⟩
  | i :: W, h, h', hl => by
    simp only [setIds]
    cases hi : h'[i]? with
    | none =>
      obtain ⟨g1, g2⟩ := setIds_get (W := W) hl
      refine ⟨g1, fun id => ?_⟩
      rw [g2]
      have hge : h.length ≤ i := by
        rcases Nat.lt_or_ge i h.length with h1 | h1
        · rw [List.getElem?_eq_getElem (by omega)] at hi; exact nomatch hi
        · exact h1
      by_cases hid : id = i
      · subst hid
        simp [hi, List.getElem?_eq_none hge]
      · simp [hid]
    | some o =>
      obtain ⟨g1, g2⟩ := setIds_get (W := W) (h := h.set i o) (h' := h') (by simpa using hl)
      refine ⟨by simpa using g1, fun id => ?_⟩
      rw [g2, List.getElem?_set]
      by_cases hid : i = id
      · subst hid
        have : i < h.length := by have := lt_of_some hi; omega
        simp [hi, this]
      · have : ¬ id = i := fun e => hid e.symm
        simp [hid, this]

theorem restrict_get {F : List Nat} : ∀ {h : Heap} {i : Nat} (id : Nat), (restrictA F i h)[id]? = if F.contains (i + id) then h[id]? else h[id]?.map fun _ => none
  | [], i, id => by simp [restrictA]
  | o :: h, i, 0 => by
    simp only [restrictA, List.getElem?_cons_zero, Nat.add_zero, Option.map_some]
    split <;> rfl
  | o :: h, i, id + 1 => by
    simp only [restrictA, List.getElem?_cons_succ]
    rw [restrict_get id, show i + 1 + id = i + (id + 1) by omega]

theorem restrict_length {F : List Nat} : ∀ {h : Heap} {i : Nat}, (restrictA F i h).length = h.length
  | [], _ => rfl
  | o :: h, i => by simp [restrictA, restrict_length]

theorem holes_get {F : List Nat} : ∀ {h : Heap} {i : Nat}, holesA F i h = true → ∀ id : Nat, id < h.length → F.contains (i + id) = false → h[id]? = some none
  | [], i, _, id, hl, _ => by simp at hl
  | o :: h, i, hh, id, hl, hf => by
    simp only [holesA, Bool.and_eq_true, Bool.or_eq_true] at hh
    cases id with
    | zero =>
      rw [Nat.add_zero] at hf
      rcases hh.1 with h1 | h1
      · rw [hf] at h1; exact nomatch h1
      · cases o with
        | none => rfl
        | some o => simp at h1
    | succ id =>
      rw [List.getElem?_cons_succ]
      exact holes_get hh.2 id (by simpa using hl) (by rw [show i + 1 + id = i + (id + 1) by omega]; exact hf)

theorem regionD_logs : ∀ {l : List Oper} {at_ : Nat} {masks : List Nat} {done : List Done} {s s' : St}, s.heap.length = N → regionD P callf ops N l at_ masks done s = some s' →
    ∃ es, Logs P callf ops N done.length l es s s' ∧ (∀ (i : Nat) (e : Ent), es[i]? = some e → ∀ (j : Nat) (d : Done), (done ++ es.map (·.d))[j]? = some d → j < done.length + i → (masks[i]?.getD 0).testBit j = true ∨ apartD d e.d = true) ∧
      (∀ (i : Nat) (e : Ent) (r : Nat), es[i]? = some e → r ∈ e.slots → at_ ≤ r ∧ r < at_ + countBoxes l) ∧ (∀ (i j : Nat) (e e' : Ent) (r : Nat), es[i]? = some e → es[j]? = some e' → i < j → r ∈ e.slots → r ∉ e'.slots)
  | [], at_, masks, done, s, s', _, h => by
    simp [regionD] at h
    subst h
    exact ⟨[], .nil _ _, fun i e hi => by simp at hi, fun i e r hi => by simp at hi, fun i j e e' r hi => by simp at hi⟩
  | o :: l, at_, masks, done, s, s', hN0, h => by
    unfold regionD at h
    split at h
    · rename_i d v h' hdo
      unfold doneOp at hdo
      split at hdo
      · exact nomatch hdo
      · rename_i w hw
        split at hdo
        · exact nomatch hdo
        · rename_i F0 hF
          split at hdo
          · exact nomatch hdo
          · rename_i v0 h0 hone
            split at hdo
            · exact nomatch hdo
            · rename_i v' h'' hset
              split at hdo
              · rename_i hcond
                obtain ⟨c1, c2, c3, c4⟩ := hcond
                simp only [Option.some.injEq, Prod.mk.injEq] at hdo
                obtain ⟨rfl, rfl, rfl⟩ := hdo
                have hset' := setIds_get (W := writesIn o.op (slotsOf o.op w at_ ++ F0) (restrictA (slotsOf o.op w at_ ++ F0) 0 s.heap) h'') (h := s.heap) (h' := h'') (by rw [c1, hN0])
                obtain ⟨es, g1, g2, g3, g4⟩ := regionD_logs (by simp only; rw [hset'.1]; exact hN0) h
                generalize hpe : placeOf o.op w at_ = pl at hone
                generalize hlv : (if makesBox o.op then 0 else leaveN o.op) = lv at hset
                have hsl : slotsOf o.op w at_ = pl.toList ++ List.range' at_ lv := by
                  unfold slotsOf
                  rw [hpe, ← hlv]
                  split <;> rfl
                let e : Ent := ⟨⟨readsOf ops o, o.dst, slotsOf o.op w at_ ++ F0, writesIn o.op (slotsOf o.op w at_ ++ F0) (restrictA (slotsOf o.op w at_ ++ F0) 0 s.heap) h''⟩, v', h'', pl, at_, lv, v0, h0⟩
                have hlen : (done ++ [e.d]).length = done.length + 1 := by simp
                have hes : e.slots = slotsOf o.op w at_ := hsl.symm
                have hpl : ∀ r, pl = some r → r = at_ ∧ makesBox o.op = true := fun r hr => by
                  rw [← hpe] at hr
                  simp only [placeOf] at hr
                  split at hr
                  · rename_i hm; simp at hm; exact ⟨(Option.some.inj hr).symm, hm.1⟩
                  · exact nomatch hr
                have hin : ∀ r, r ∈ e.slots → at_ ≤ r ∧ r < nextAt o.op at_ := fun r hr => by
                  have hr : r ∈ pl.toList ++ List.range' at_ lv := hr
                  rcases List.mem_append.1 hr with hr | hr
                  · obtain ⟨q1, q2⟩ := hpl r (by simpa using hr)
                    rw [nextAt, if_pos q2]; omega
                  · rw [List.mem_range'_1] at hr
                    rw [← hlv] at hr
                    unfold nextAt
                    split <;> rename_i hm <;> simp [hm] at hr <;> omega
                have hexcl : pl = none ∨ lv = 0 := by
                  cases hp : pl with
                  | none => exact Or.inl rfl
                  | some r => right; rw [← hlv, if_pos (hpl r hp).2]
                have hrl : (restrictA (slotsOf o.op w at_ ++ F0) 0 s.heap).length = N := by rw [restrict_length]; exact hN0
                have hnx : ∀ r, nextAt o.op at_ ≤ r ∧ r < nextAt o.op at_ + countBoxes l → at_ ≤ r ∧ r < at_ + countBoxes (o :: l) := fun r hr => by
                  simp only [countBoxes]
                  unfold nextAt at hr; split at hr <;> rename_i hm <;> simp [hm] <;> omega
                refine ⟨e :: es, .cons ⟨hone, hset, hexcl, c1, c2, rfl, rfl, fun i hi => writesIn_sub hi, fun i hi hw => writesIn_keeps hone hrl hset hi hw, fun r hr => by simp only [e] at hr ⊢; rw [hsl, hr]; simp, fun x hx hb => ?_⟩ (by rw [hlen] at g1; exact g1), fun i e' hi j d hj hlt => ?_, fun i e' r hi hr => ?_, fun i j e1 e2 r hi hj hlt hr => ?_⟩
                · have := List.all_eq_true.1 c4 x hx
                  simpa [hb] using this
                · cases i with
                  | zero =>
                    have hi' := Option.some.inj hi
                    subst hi'
                    rw [List.getElem?_append_left (by omega)] at hj
                    have := checkOne_ok c3 j d hj
                    rw [Nat.zero_add] at this
                    have hm : masks[0]?.getD 0 = masks.headD 0 := by cases masks <;> rfl
                    rw [hm]
                    exact this
                  | succ i =>
                    have := g2 i e' (by simpa using hi) j d (by simpa using hj) (by rw [hlen]; omega)
                    have hm : masks[i + 1]?.getD 0 = masks.tail[i]?.getD 0 := by cases masks <;> simp
                    rw [hm]
                    exact this
                · cases i with
                  | zero =>
                    have hi' := Option.some.inj hi
                    subst hi'
                    have := hin r hr
                    simp only [countBoxes]
                    unfold nextAt at this; split at this <;> rename_i hm <;> simp [hm] <;> omega
                  | succ i => exact hnx r (g3 i e' r (by simpa using hi) hr)
                · cases i with
                  | zero =>
                    have hi' := Option.some.inj hi
                    subst hi'
                    cases j with
                    | zero => omega
                    | succ j =>
                      have q := hin r hr
                      intro hr2
                      have := g3 j e2 r (by simpa using hj) hr2
                      omega
                  | succ i =>
                    cases j with
                    | zero => omega
                    | succ j => exact g4 i j e1 e2 r (by simpa using hi) (by simpa using hj) (by omega) hr
              · exact nomatch hdo
    · exact nomatch h

theorem logs_state : ∀ {k : Nat} {l : List Oper} {es : List Ent} {s s' : St}, Logs P callf ops N k l es s s' → s.heap.length = N → ∀ (i : Nat) (e : Ent), es[i]? = some e → ∃ (o : Oper) (si : St), l[i]? = some o ∧ EntOk P callf ops N (k + i) o e si.tmps si.heap ∧
    (∀ t : Nat, si.tmps[t]? = lookT t (fun j => decide (j < i)) es s.tmps[t]?) ∧ (∀ id : Nat, si.heap[id]? = lookH id (fun j => decide (j < i)) es s.heap[id]?) ∧ si.heap.length = N
  | _, _, _, _, _, .nil _ _, _, i, e, hi => by simp at hi
  | k, _, _, s, s', .cons (o := o) (l := l) (e := x) (es := es) h hr, hN, i, e, hi => by
    cases i with
    | zero =>
      have hi' := Option.some.inj hi
      subst hi'
      refine ⟨o, s, rfl, h, fun t => ?_, fun id => ?_, hN⟩
      · rw [lookT_none]; intro j e' _ _; simp
      · rw [lookH_none]; intro j e' _ _; simp
    | succ i =>
      have hsl := setIds_get (W := x.d.writes) (h := s.heap) (h' := x.h) (by rw [h.len, hN])
      obtain ⟨o', si, q1, q2, q3, q4, q5⟩ := logs_state hr (by simp only; rw [hsl.1, hN]) i e (by simpa using hi)
      refine ⟨o', si, by simpa using q1, by rw [show k + (i + 1) = k + 1 + i by omega]; exact q2, fun t => ?_, fun id => ?_, q5⟩
      · rw [q3 t]
        simp only [lookT]
        have e1 : (fun k => decide (k + 1 < i + 1)) = fun k => decide (k < i) := by funext k; simp
        rw [e1, putA_get, h.dst]
        simp
      · rw [q4 id]
        simp only [lookH]
        have e1 : (fun k => decide (k + 1 < i + 1)) = fun k => decide (k < i) := by funext k; simp
        rw [e1, hsl.2 id]
        simp

theorem logs_end : ∀ {k : Nat} {l : List Oper} {es : List Ent} {s s' : St}, Logs P callf ops N k l es s s' → s.heap.length = N →
    (∀ t : Nat, s'.tmps[t]? = lookT t (fun _ => true) es s.tmps[t]?) ∧ (∀ id : Nat, s'.heap[id]? = lookH id (fun _ => true) es s.heap[id]?) ∧ s'.heap.length = N ∧ es.length = l.length
  | _, _, _, _, _, .nil _ _, hN => ⟨fun _ => rfl, fun _ => rfl, hN, rfl⟩
  | k, _, _, s, s', .cons (o := o) (l := l) (e := x) (es := es) h hr, hN => by
    have hsl := setIds_get (W := x.d.writes) (h := s.heap) (h' := x.h) (by rw [h.len, hN])
    obtain ⟨q1, q2, q3, q4⟩ := logs_end hr (by simp only; rw [hsl.1, hN])
    refine ⟨fun t => ?_, fun id => ?_, q3, by simp [q4]⟩
    · rw [q1 t]
      simp only [lookT]
      rw [putA_get, h.dst]
      simp
    · rw [q2 id]
      simp only [lookH]
      rw [hsl.2 id]
      simp

/- an operation looks at its operands, and at its guard -/

def Agree (ts ts' : List AV) (l : List Tmp) : Prop := ∀ t, l.contains t = true → ts[t]? = ts'[t]?

theorem evalX_agree {ts ts' : List AV} {x : Operand} (h : ∀ t, x = .tmp t → ts[t]? = ts'[t]?) : evalX ts x = evalX ts' x := by
  cases x with
  | tmp t => simp only [evalX, List.getD_eq_getElem?_getD, h t rfl]
  | _ => rfl

theorem evalL_agree {ts ts' : List AV} : ∀ {l : List Operand}, (∀ x, x ∈ l → evalX ts x = evalX ts' x) → evalL ts l = evalL ts' l
  | [], _ => rfl
  | x :: l, h => by
    simp only [evalL]
    rw [h x (by simp), evalL_agree fun y hy => h y (by simp [hy])]

theorem evalParts_agree {ts ts' : List AV} : ∀ {l : List (Nat × Operand)}, (∀ x, x ∈ l → evalX ts x.2 = evalX ts' x.2) → evalParts ts l = evalParts ts' l
  | [], _ => rfl
  | (i, x) :: l, h => by
    simp only [evalParts]
    rw [h (i, x) (by simp), evalParts_agree fun y hy => h y (by simp [hy])]

theorem boundA_agree {ts ts' : List AV} {o : Option Operand} {d t : Nat} (h : ∀ x, o = some x → evalX ts x = evalX ts' x) : boundA ts o d t = boundA ts' o d t := by
  cases o with
  | none => rfl
  | some x => simp only [boundA, h x rfl]

theorem stepOp_agree {ts ts' : List AV} {op : Op} {place : Option Nat} {h : Heap} (hx : ∀ x, x ∈ op.operands.toList → evalX ts x = evalX ts' x) : stepOp P callf place op ts h = stepOp P callf place op ts' h := by
  cases op with
  | move x => simp only [stepOp]; rw [hx x (by simp [Op.operands])]
  | assign x => simp only [stepOp]; rw [hx x (by simp [Op.operands])]
  | pick c a b => simp only [stepOp]; rw [hx c (by simp [Op.operands]), hx a (by simp [Op.operands]), hx b (by simp [Op.operands])]
  | box e x => simp only [stepOp]; rw [hx x (by simp [Op.operands])]
  | build t ps =>
    simp only [stepOp]
    rw [evalParts_agree (ts' := ts') fun y hy => hx y.2 (by simp [Op.operands]; exact ⟨y.1, by simpa using hy⟩)]
  | buildSlice t n ps =>
    simp only [stepOp]
    rw [evalParts_agree (ts' := ts') fun y hy => hx y.2 (by simp [Op.operands]; exact ⟨y.1, by simpa using hy⟩)]
  | load t x => simp only [stepOp]; rw [hx x (by simp [Op.operands])]
  | store t x y => simp only [stepOp]; rw [hx x (by simp [Op.operands]), hx y (by simp [Op.operands])]
  | nilCheck x => simp only [stepOp]; rw [hx x (by simp [Op.operands])]
  | binOp op t x y u => simp only [stepOp]; rw [hx x (by simp [Op.operands]), hx y (by simp [Op.operands])]
  | unOp op t x => simp only [stepOp]; rw [hx x (by simp [Op.operands])]
  | convert s d x => simp only [stepOp]; rw [hx x (by simp [Op.operands])]
  | makeFunc fn a c =>
    simp only [stepOp]
    rw [evalL_agree (l := a.toList) (ts' := ts') fun y hy => hx y (by simp [Op.operands]; exact Or.inl (by simpa using hy)), evalL_agree (l := c.toList) (ts' := ts') fun y hy => hx y (by simp [Op.operands]; exact Or.inr (by simpa using hy))]
  | slice t x lo hi mx =>
    simp only [stepOp]
    rw [hx x (by simp [Op.operands])]
    have b1 : ∀ d t, boundA ts lo d t = boundA ts' lo d t := fun d t => boundA_agree fun y hy => hx y (by subst hy; simp [Op.operands])
    have b2 : ∀ d t, boundA ts hi d t = boundA ts' hi d t := fun d t => boundA_agree fun y hy => hx y (by subst hy; simp [Op.operands])
    have b3 : ∀ d t y, mx = some y → boundA ts (some y) d t = boundA ts' (some y) d t := fun d t y hm => boundA_agree fun z hz => hx z (by subst hm; cases hz; simp [Op.operands])
    have b4 : ∀ d t y, hi = some y → boundA ts (some y) d t = boundA ts' (some y) d t := fun d t y hm => boundA_agree fun z hz => hx z (by subst hm; cases hz; simp [Op.operands])
    have hs : ∀ a, sliceA P t a lo hi mx ts = sliceA P t a lo hi mx ts' := fun a => by
      unfold sliceA
      cases mx with
      | none => simp only [b1, b2]
      | some m =>
        cases hi with
        | none => simp only [b1, b2]
        | some y => simp only [b1, b2, b3 _ _ m rfl, b4 _ _ y rfl]
    simp only [hs]
  | fieldAddr t x f => simp only [stepOp]; rw [hx x (by simp [Op.operands])]
  | field t x f => simp only [stepOp]; rw [hx x (by simp [Op.operands])]
  | indexAddr t x i => simp only [stepOp]; rw [hx x (by simp [Op.operands]), hx i (by simp [Op.operands])]
  | index t x i => simp only [stepOp]; rw [hx x (by simp [Op.operands]), hx i (by simp [Op.operands])]
  | extract x i => simp only [stepOp]; rw [hx x (by simp [Op.operands])]
  | makeMap t r => simp only [stepOp]
  | makeSlice t l c => simp only [stepOp]; rw [hx l (by simp [Op.operands]), hx c (by simp [Op.operands])]
  | lookup t x i ok => simp only [stepOp]; rw [hx x (by simp [Op.operands]), hx i (by simp [Op.operands])]
  | mapUpdate t x i v => simp only [stepOp]; rw [hx x (by simp [Op.operands]), hx i (by simp [Op.operands]), hx v (by simp [Op.operands])]
  | range t x => simp only [stepOp]; rw [hx x (by simp [Op.operands])]
  | next x b => simp only [stepOp]; rw [hx x (by simp [Op.operands])]
  | call c =>
    simp only [stepOp, callA]
    rw [evalL_agree (l := c.args.toList) (ts' := ts') fun y hy => hx y (by simp [Op.operands, Call.operands]; exact Or.inr (by simpa using hy))]
    cases hc : c.callee with
    | value f => simp only []; rw [hx f (by simp [Op.operands, Call.operands, hc])]
    | _ => rfl
  | _ => rfl

theorem oneOp_agree {ts ts' : List AV} {o : Oper} {place : Option Nat} {h : Heap} (hx : Agree ts ts' (readsOf ops o)) : oneOp P callf ops place o ts h = oneOp P callf ops place o ts' h := by
  have h1 : ∀ x, x ∈ o.op.operands.toList → evalX ts x = evalX ts' x := fun x hxx => evalX_agree fun t ht => hx t (by
    subst ht
    simp only [readsOf, List.contains_iff_mem, List.mem_append, List.mem_filterMap]
    exact Or.inl ⟨.tmp t, hxx, rfl⟩)
  have h2 : wantedA ops o ts = wantedA ops o ts' := by
    unfold wantedA
    cases hg : o.guard with
    | none => rfl
    | some g =>
      obtain ⟨j, want⟩ := g
      simp only []
      cases hd : (ops[j]?).bind (·.dst) with
      | none => rfl
      | some d =>
        simp only []
        rw [hx d (by simp only [readsOf, hg, hd]; simp)]
  unfold oneOp
  rw [h2, stepOp_agree h1]


end
end Go.Proofs.YtobhpbnlbgbjaaaGreatDoor
