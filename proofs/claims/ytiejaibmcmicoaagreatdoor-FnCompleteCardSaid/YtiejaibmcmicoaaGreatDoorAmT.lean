/- What a row's arguments read as, in the small machine's values; no condition. -/
import Derived.Test.YtiejaibmcmicoaaGreatDoorAm12
import Derived.ProofKit
import Derived.SizedLaws
import Derived.ChangeOld
namespace Go.Proofs.YtiejaibmcmicoaaGreatDoor.Am
open Go Go.ChangeShapes Go.WideShapes
inductive Sh where
  | bool
  | int (k : IntKind)
  | str
  | slice (bytes sz : Nat) (s : Sh)
  | struct (s : Sh)
  | nil
  | cons (s r : Sh)
def Sh.size : Sh → Nat
  | .bool | .int _ | .str | .slice .. => 1
  | .struct s => s.size
  | .nil => 0
  | .cons s r => s.size + r.size
def Is : Sh → List AV → Prop
  | .bool, l => ∃ b, l = [.sc (.bool b)]
  | .int k, l => ∃ n, (Lit.int k n).wf = true ∧ l = [.sc (.int k n)]
  | .str, l => ∃ s : ByteArray, s.size ≤ reachBytes ∧ l = [.sc (.string s)]
  | .slice bytes _ s, l => ∃ rs : List (List AV), l = [.ro rs.flatten rs.length] ∧ rs.length * bytes ≤ reachBytes ∧ ∀ r ∈ rs, Is s r
  | .struct s, l => Is s l
  | .nil, l => l = []
  | .cons s r, l => ∃ l1 l2, l = l1 ++ l2 ∧ Is s l1 ∧ Is r l2
mutual
def shB (P : Program) : Sh → TypeId → Bool
  | .bool, t => match P.underlying t with | some .bool => true | _ => false
  | .int k, t => match P.underlying t with | some (.int k') => k == k' | _ => false
  | .str, t => match P.underlying t with | some .string => true | _ => false
  | .slice bytes sz s, t => match P.underlying t with | some (.slice e) => P.bytesOf e == bytes && P.cellsOf e == sz && s.size == sz && decide (0 < sz) && shB P s e | _ => false
  | .struct s, t => match P.underlying t with | some (.struct fs) => shF P s fs.toList 0 && P.cellsOf t == s.size | _ => false
  | .nil, _ => false
  | .cons .., _ => false
def shF (P : Program) : Sh → List Field → Nat → Bool
  | .nil, fs, _ => fs.isEmpty
  | .cons s r, fs, off => match fs with
    | f :: fs => f.offset == off && P.cellsOf f.type == s.size && shB P s f.type && shF P r fs (off + s.size)
    | [] => false
  | _, _, _ => false
end
section
variable {H : Type} {enc : TypeId × Value → H} {P : Program} {w : World}
theorem weightsAll_mem {e : TypeId} : ∀ {ds : List (DataW H)} {d : DataW H}, d ∈ ds → ∀ n ∈ d.weights P e, n ∈ DataW.weightsAll P e ds
  | d0 :: ds, d, hd, n, hn => by
    simp only [DataW.weightsAll, List.mem_append]
    rcases List.mem_cons.1 hd with rfl | hd
    · exact .inl hn
    · exact .inr (weightsAll_mem hd n hn)
  | [], _, hd, _, _ => by simp at hd
theorem Ws.append {M : Nat → Prop} {a b : List AV} {u v : List Value} (h : Ws M w a u) (k : Ws M w b v) : Ws M w (a ++ b) (u ++ v) := by
  refine ⟨by simp [h.1, k.1], fun x hx => (List.mem_append.1 hx).elim (h.2.1 x) (k.2.1 x), fun j x y hx hy => ?_⟩
  by_cases hj : j < a.length
  · rw [List.getElem?_append_left hj] at hx
    rw [List.getElem?_append_left (by rw [h.1]; exact hj)] at hy
    exact h.2.2 j x y hx hy
  · rw [List.getElem?_append_right (by omega)] at hx
    rw [List.getElem?_append_right (by rw [h.1]; omega), h.1] at hy
    exact k.2.2 _ x y hx hy
theorem Ws.one {M : Nat → Prop} {x : AV} {v : Value} (h : W M w x v) (ho : v.oneCell' = true) : Ws M w [x] [v] := by
  refine ⟨rfl, by simpa using ho, fun j y u hy hu => ?_⟩
  cases j with
  | zero => simp at hy hu; subst hy; subst hu; exact h
  | succ j => simp at hy
theorem Ws.nil {M : Nat → Prop} : Ws M w [] [] := ⟨rfl, by simp, by simp⟩
theorem Ws.rows {M : Nat → Prop} {sz : Nat} : ∀ (rs : List (List AV)) (us : List (List Value)), us.length = rs.length → (∀ u ∈ us, u.length = sz) → (∀ (i : Nat) (r : List AV) (u : List Value), rs[i]? = some r → us[i]? = some u → Ws M w r u) →
    Ws M w rs.flatten us.flatten ∧ us.flatten.length = rs.length * sz
  | [], [], _, _, _ => ⟨Ws.nil, by simp⟩
  | r :: rs, u :: us, hl, hs, h => by
    obtain ⟨h1, h2⟩ := Ws.rows rs us (by simpa using hl) (fun x hx => hs x (by simp [hx])) (fun i r u a b => h (i + 1) r u (by simpa using a) (by simpa using b))
    refine ⟨by simpa using (h 0 r u rfl rfl).append h1, ?_⟩
    rw [List.flatten_cons, List.length_append, h2, hs u (by simp), List.length_cons, Nat.succ_mul, Nat.add_comm]
  | [], _ :: _, hl, _, _ => by simp at hl
  | _ :: _, [], hl, _, _ => by simp at hl
theorem flatten_get {sz : Nat} : ∀ (us : List (List Value)), (∀ u ∈ us, u.length = sz) → ∀ (k : Nat) (v : Value), us.flatten[k]? = some v → ∃ u, us[k / sz]? = some u ∧ u[k % sz]? = some v ∧ k / sz < us.length ∧ k % sz < sz
  | [], _, k, v, hv => by simp at hv
  | u :: us, hs, k, v, hv => by
    have hu := hs u (by simp)
    rw [List.flatten_cons] at hv
    by_cases hk : k < u.length
    · rw [List.getElem?_append_left hk] at hv
      rw [hu] at hk
      rw [Nat.div_eq_of_lt hk, Nat.mod_eq_of_lt hk]
      exact ⟨u, rfl, hv, by simp, hk⟩
    · rw [List.getElem?_append_right (by omega), hu] at hv
      obtain ⟨u', h1, h2, h3, h4⟩ := flatten_get us (fun x hx => hs x (by simp [hx])) _ v hv
      have hpos : 0 < sz := by omega
      have e1 : k / sz = (k - sz) / sz + 1 := by
        rw [← Nat.add_div_right _ hpos]; congr 1; omega
      have e2 : k % sz = (k - sz) % sz := by
        conv => lhs; rw [show k = k - sz + sz by omega]
        rw [Nat.add_mod_right]
      rw [e1, e2]
      exact ⟨u', by simpa using h1, h2, by simp; omega, h4⟩
mutual
theorem open_sh : ∀ (s : Sh) (t : TypeId) (fuel : Nat) (cs : List Value) (x : DataW H × List MemPlace), shB P s t = true → DataW.trod enc P w 0 (fun _ => true) true fuel t cs = some x → (∀ n ∈ x.1.weights P t, n ≤ reachBytes) →
    ∃ avs, Is s avs ∧ Ws (· < w.heap.size) w avs cs ∧ cs.length = s.size
  | .bool, t, fuel, cs, x, hs, h, hb => by
    unfold shB at hs
    split at hs <;> (try cases hs)
    rename_i ht
    obtain ⟨b, rfl, rfl⟩ := DataW.trod_bool ht h
    exact ⟨[.sc (.bool b)], ⟨b, rfl⟩, .one (.sc _ rfl) rfl, rfl⟩
  | .int k, t, fuel, cs, x, hs, h, hb => by
    unfold shB at hs
    split at hs <;> (try cases hs)
    rename_i k' ht
    obtain rfl : k = k' := by simpa using hs
    obtain ⟨n, rfl, rfl, hw⟩ := DataW.trod_int ht h
    exact ⟨[.sc (.int k n)], ⟨n, hw, rfl⟩, .one (.sc _ rfl) rfl, rfl⟩
  | .str, t, fuel, cs, x, hs, h, hb => by
    unfold shB at hs
    split at hs <;> (try cases hs)
    rename_i ht
    obtain ⟨s, rfl, rfl, hw⟩ := DataW.trod_string ht h
    exact ⟨[.sc (.string s)], ⟨s, by simpa [DataW.weights] using hb, rfl⟩, .one (.sc _ rfl) rfl, rfl⟩
  | .slice bytes sz s, t, fuel, cs, x, hs, h, hb => by
    unfold shB at hs
    split at hs <;> (try cases hs)
    rename_i e ht
    simp only [Bool.and_eq_true, beq_iff_eq, decide_eq_true_eq] at hs
    obtain ⟨⟨⟨⟨hby, hsz⟩, hsz'⟩, hpos⟩, hse⟩ := hs
    rcases DataW.trod_slice ht h with ⟨rfl, rfl⟩ | ⟨a, len, cap, elems, rest, n, rfl, rfl, rfl, h0, h1, h2, h3, h4, h5, h6⟩
    · exact ⟨[.ro [] 0], ⟨[], rfl, by simp, by simp⟩, .one (.ro [] 0 none 0 [] (Nat.le_refl _) (by omega) rfl (by simp) (by simp) (by simp)) rfl, rfl⟩
    · have hel : ∀ i, i < len → ∃ (cs' : List Value) (r : List AV), cs'.length = sz ∧ a.block < w.heap.size ∧ (∀ j, j < sz → w.cell? ((a.add (i * sz)).add j) = cs'[j]?) ∧ Is s r ∧ Ws (· < w.heap.size) w r cs' := fun i hi => by
        have hi' := h4 i hi
        have hy : elems[i]? = some elems[i] := List.getElem?_eq_getElem (by omega)
        rw [hy, Option.bind_eq_some_iff] at hi'
        obtain ⟨cs', hc1, hc2⟩ := hi'
        rw [hsz] at hc1
        obtain ⟨k1, k2, k3⟩ := World.cells?_some hc1
        have hmem : elems[i].1 ∈ elems.map (·.1) := List.mem_map.2 ⟨elems[i], List.getElem_mem _, rfl⟩
        obtain ⟨r, r1, r2, r3⟩ := open_sh s e n cs' elems[i] hse hc2 fun m hm => hb m (by
          simp only [DataW.weights, ht, List.mem_cons, List.mem_append]
          exact .inr (.inl (weightsAll_mem hmem m hm)))
        exact ⟨cs', r, k2, by have := World.cells?_block hc1 hpos; unfold Addr.add at this; split at this <;> exact this, k3, r1, r2⟩
      let us : List (List Value) := (List.range len).map fun i => if hi : i < len then Classical.choose (hel i hi) else []
      let rs : List (List AV) := (List.range len).map fun i => if hi : i < len then Classical.choose (Classical.choose_spec (hel i hi)) else []
      have hus : ∀ i, (hi : i < len) → us[i]? = some (Classical.choose (hel i hi)) := fun i hi => by simp [us, hi]
      have hrs : ∀ i, (hi : i < len) → rs[i]? = some (Classical.choose (Classical.choose_spec (hel i hi))) := fun i hi => by simp [rs, hi]
      have hlu : us.length = len := by simp [us]
      have hlr : rs.length = len := by simp [rs]
      have hus' : ∀ u ∈ us, u.length = sz := fun u hu => by
        obtain ⟨i, hi, rfl⟩ := List.mem_iff_getElem.1 hu
        have := hus i (by omega)
        rw [List.getElem?_eq_getElem hi] at this
        rw [Option.some.inj this]
        exact (Classical.choose_spec (Classical.choose_spec (hel i (by omega)))).1
      obtain ⟨hw1, hw2⟩ := Ws.rows (M := (· < w.heap.size)) (w := w) rs us (by rw [hlu, hlr]) hus' (fun i r u hr hu => by
        have hi : i < len := by rw [← hlr]; exact (List.getElem?_eq_some_iff.1 hr).1
        rw [hrs i hi] at hr; cases hr
        rw [hus i hi] at hu; cases hu
        exact (Classical.choose_spec (Classical.choose_spec (hel i hi))).2.2.2.2)
      have hspot : 0 < len → a.spot = none := fun hl => by
        obtain ⟨cs', r, k1, k2, k3, _⟩ := hel 0 hl
        have := k3 0 hpos
        rw [List.getElem?_eq_getElem (by omega)] at this
        unfold World.cell? at this
        split at this
        · split at this
          · cases this
          · rename_i hs; simpa [Addr.add] using hs
        · cases this
      refine ⟨[.ro rs.flatten rs.length], ⟨rs, rfl, ?_, fun r hr => ?_⟩, .one ?_ rfl, rfl⟩
      · have := hb (((elems.map (·.1)).length + (rest.map (·.1)).length) * P.bytesOf e) (by simp only [DataW.weights, ht, List.mem_cons, true_or])
        rw [hlr, ← hby]
        simp only [List.length_map] at this
        exact Nat.le_trans (Nat.mul_le_mul_right _ (by omega)) this
      · obtain ⟨i, hi, rfl⟩ := List.mem_iff_getElem.1 hr
        have := hrs i (by omega)
        rw [List.getElem?_eq_getElem hi] at this
        rw [Option.some.inj this]
        exact (Classical.choose_spec (Classical.choose_spec (hel i (by omega)))).2.2.2.1
      · rw [hlr]
        refine .ro _ len (some a) cap us.flatten h1 (fun hl => ⟨a.block, a.off, by rw [← hspot hl]⟩) hw1.1 (fun j u hj => ?_) hw1.2.1 hw1.2.2
        obtain ⟨u', e1, e2, e3, e4⟩ := flatten_get us hus' j u hj
        have hi : j / sz < len := by omega
        rw [hus _ hi] at e1; cases e1
        have hl0 : 0 < len := Nat.lt_of_le_of_lt (Nat.zero_le _) hi
        obtain ⟨_, k2, k3, _⟩ := Classical.choose_spec (Classical.choose_spec (hel (j / sz) hi))
        have ha : a = ⟨a.block, a.off, none⟩ := by rw [← hspot hl0]
        refine ⟨a.block, a.off, by rw [← hspot hl0], k2, ?_⟩
        have := k3 (j % sz) e4
        rw [e2, ha, add_none, add_none] at this
        rw [← this]
        congr 2
        rw [Nat.add_assoc, Nat.mul_comm, Nat.div_add_mod]
  | .struct s, t, fuel, cs, x, hs, h, hb => by
    unfold shB at hs
    split at hs <;> (try cases hs)
    rename_i fs ht
    simp only [Bool.and_eq_true, beq_iff_eq] at hs
    obtain ⟨xs, n, rfl, rfl, h1, h2, h3⟩ := DataW.trod_struct ht h
    obtain ⟨avs, k1, k2⟩ := open_shF s fs.toList 0 n cs hs.1 (fun i f hf => by
      have hi : i < xs.length := by rw [h2]; simpa using (List.getElem?_eq_some_iff.1 hf).1
      have := h3 i f (by simpa using hf)
      rw [List.getElem?_eq_getElem hi] at this
      refine ⟨xs[i], this, fun m hm => hb m ?_⟩
      simp only [DataW.weights, ht]
      exact DataW.weights_mem_each (j := i) (t := f.type) (d := xs[i].1) (by simp at hf ⊢; exact ⟨f, hf, rfl⟩) (by simp [hi]) m hm) (by rw [h1, hs.2, Nat.zero_add])
    exact ⟨avs, k1, by simpa using k2, by rw [h1, hs.2]; rfl⟩
  | .nil, t, fuel, cs, x, hs, h, hb => by unfold shB at hs; cases hs
  | .cons s r, t, fuel, cs, x, hs, h, hb => by unfold shB at hs; cases hs
theorem open_shF : ∀ (s : Sh) (fs : List Field) (off n : Nat) (cs : List Value), shF P s fs off = true →
    (∀ (i : Nat) (f : Field), fs[i]? = some f → ∃ x : DataW H × List MemPlace, DataW.trod enc P w 0 (fun _ => true) true n f.type ((cs.drop f.offset).take (P.cellsOf f.type)) = some x ∧ ∀ m ∈ x.1.weights P f.type, m ≤ reachBytes) → cs.length = off + s.size →
    ∃ avs, Is s avs ∧ Ws (· < w.heap.size) w avs (cs.drop off)
  | .nil, fs, off, n, cs, hs, h, hl => by
    refine ⟨[], rfl, ?_⟩
    rw [List.drop_of_length_le (by simp [Sh.size] at hl; omega)]
    exact Ws.nil
  | .cons s r, fs, off, n, cs, hs, h, hl => by
    cases fs with
    | nil => simp [shF] at hs
    | cons f fs =>
    unfold shF at hs
    simp only [Bool.and_eq_true, beq_iff_eq] at hs
    obtain ⟨⟨⟨h1, h2⟩, h3⟩, h4⟩ := hs
    obtain ⟨x, hx, hxb⟩ := h 0 f rfl
    obtain ⟨a1, k1, k2, k3⟩ := open_sh s f.type n _ x h3 hx hxb
    obtain ⟨a2, m1, m2⟩ := open_shF r fs (off + s.size) n cs h4 (fun i f hf => h (i + 1) f (by simpa using hf)) (by simp only [Sh.size] at hl; omega)
    refine ⟨a1 ++ a2, ⟨a1, a2, rfl, k1, m1⟩, ?_⟩
    rw [h1, h2] at k2
    have : cs.drop off = (cs.drop off).take s.size ++ cs.drop (off + s.size) := by
      rw [← List.drop_drop, List.take_append_drop]
    rw [this]
    exact k2.append m2
  | .bool, fs, off, n, cs, hs, h, hl => by simp [shF] at hs
  | .int k, fs, off, n, cs, hs, h, hl => by simp [shF] at hs
  | .str, fs, off, n, cs, hs, h, hl => by simp [shF] at hs
  | .slice .., fs, off, n, cs, hs, h, hl => by simp [shF] at hs
  | .struct s, fs, off, n, cs, hs, h, hl => by simp [shF] at hs
end
def argAV : Sh → List AV → AV
  | .struct _, l => .agg l
  | _, l => l.headD .un
theorem open_arg {s : Sh} {t : TypeId} {v : Value} {d : DataW H} {ps : List MemPlace} {b : Nat} (hs : shB P s t = true) (hval : Value.okWide P w .any b t v) (hd : DataW.Trod enc P w 0 (fun _ => true) true t v d ps) (hb : ∀ n ∈ d.weights P t, n ≤ reachBytes) :
    ∃ avs, Is s avs ∧ W (· < w.heap.size) w (argAV s avs) v := by
  obtain ⟨fuel, hf⟩ := hd
  obtain ⟨avs, h1, h2, _⟩ := open_sh s t fuel _ _ hs hf hb
  refine ⟨avs, h1, ?_⟩
  have one : ∀ (x : AV) (u : Value), avs = [x] → v = u → v.cells.toList = [u] → W (· < w.heap.size) w (avs.headD .un) v := fun x u e1 e2 e3 => by
    subst e1; subst e2
    rw [e3] at h2
    exact h2.2.2 0 x v rfl rfl
  cases s with
  | bool =>
    obtain ⟨b, rfl⟩ := h1
    unfold shB at hs
    split at hs <;> (try cases hs)
    rename_i ht
    obtain ⟨b', rfl⟩ := okWide_bool ht hval
    exact one _ _ rfl rfl rfl
  | int k =>
    obtain ⟨n, _, rfl⟩ := h1
    unfold shB at hs
    split at hs <;> (try cases hs)
    rename_i ht
    obtain ⟨b', rfl⟩ := okWide_int ht hval
    exact one _ _ rfl rfl rfl
  | str =>
    obtain ⟨n, _, rfl⟩ := h1
    unfold shB at hs
    split at hs <;> (try cases hs)
    rename_i ht
    obtain ⟨b', rfl⟩ := okWide_string ht hval
    exact one _ _ rfl rfl rfl
  | slice =>
    obtain ⟨rs, rfl, _⟩ := h1
    unfold shB at hs
    split at hs <;> (try cases hs)
    rename_i ht
    obtain ⟨a, len, cap, rfl⟩ := okWide_slice ht hval
    exact one _ _ rfl rfl rfl
  | struct s =>
    unfold shB at hs
    split at hs <;> (try cases hs)
    rename_i ht
    simp only [Value.okWide, ht] at hval
    obtain ⟨cs, rfl, _⟩ := hval
    have : (Value.agg cs).cells.toList = cs.toList := rfl
    rw [this] at h2
    have := W.agg (M := (· < w.heap.size)) avs cs.toList h2.1 h2.2.1 h2.2.2
    simpa [argAV] using this
  | nil => unfold shB at hs; cases hs
  | cons => unfold shB at hs; cases hs
theorem Ret.law {f : FuncId} {xs outs : List AV} (hR : Ret P f xs (.sc (.bool true)) outs) {vs : List Value} (hl : vs.length = xs.length) (hv : ∀ (j : Nat) (x : AV) (v : Value), xs[j]? = some x → vs[j]? = some v → W (· < w.heap.size) w x v) (hT : Laid (· < w.heap.size) w) :
    Calls P f vs.toArray w fun e w' => e = .returned (.bool true) ∧ Go.RowKit.Below w.heap.size w w' := by
  have := hR (· < w.heap.size) w vs (List.replicate xs.length []) ⟨hl, by simp, fun j x v F hx hv' hF => by
    obtain rfl : F = [] := (List.mem_replicate.1 (List.mem_of_getElem? hF)).2
    exact .imm _ _ (hv j x v hx hv')⟩ (by simp) (by simp) (fun g h => h) hT
  refine this.mono ?_
  rintro e w' ⟨v, M', Fr, Gs, rfl, h1, _, _, L⟩
  have hv : v = .bool true := (vsc h1).1
  subst hv
  exact ⟨rfl, L.os, L.tape, L.output, L.grown, fun g hg => L.frame g hg (by simp)⟩
end
end Go.Proofs.YtiejaibmcmicoaaGreatDoor.Am
