/- The operations that make or write memory, all in one; no condition. -/
import Derived.Test.YtiejaibmcmicoaaGreatDoorAm4
import Derived.Laws.IdiomStrings
namespace Go.Proofs.YtiejaibmcmicoaaGreatDoor.Am
open Go
def placeB (P : Program) (fs : Array Field) (i : Nat) : Option (Nat × Nat) := (fs[i]?).bind fun f => (szB P f.type).map fun n => (f.offset, n)
def partsB (place : Nat → Option (Nat × Nat)) (parts : List (Nat × Operand)) : Option (List (Nat × Nat × AX)) :=
  parts.mapM fun (i, x) => (place i).bind fun (off, n) => (cx x).map fun x' => (off, n, x')
def wop (P : Program) (o : Oper) : Option WOp :=
  match o.op with
  | .alloc t => (zeroB P t).bind fun z => if oneL z.cells.toList then some (.alloc (z.cells.toList.map cv1)) else none
  | .box _ x => (cx x).map .box
  | .store t p x => (cx p).bind fun p => (cx x).bind fun x => (szB P t).map fun n => .store n p x
  | .build t parts => match P.underlying t with
    | some (.struct fs) => (zeroB P t).bind fun z => if oneL z.cells.toList && fs.all (fun f => (szB P f.type).isSome) then (partsB (placeB P fs) parts.toList).map fun ps => .build (z.cells.toList.map cv1) ps else none
    | some (.array _ e) => (szB P e).bind fun sz => (zeroB P t).bind fun z => if oneL z.cells.toList then (partsB (fun i => some (i * sz, sz)) parts.toList).map fun ps => .build (z.cells.toList.map cv1) ps else none
    | _ => none
  | .buildSlice t len parts => match P.underlying t with
    | some (.slice e) => (szB P e).bind fun sz => (zeroB P e).bind fun z =>
      if oneL z.cells.toList && decide (len * sz ≤ 2 ^ 24) && decide (0 < sz) && decide (z.cells.size = sz) then
        (partsB (fun i => some (i * sz, sz)) parts.toList).map fun ps => .bsl sz len ((List.replicate len (z.cells.toList.map cv1)).flatten) ps
      else none
    | _ => none
  | .call { callee := .builtin .append, args, argTypes } => match args.toList, argTypes.toList with
    | [s, x], [t, tx] => match P.underlying t with
      | some (.slice e) => (szB P e).bind fun sz => (zeroB P e).bind fun z => ((P.info? e).map (·.bytes)).bind fun bytes =>
        if decide (z.cells.size = sz) && decide (0 < bytes) then
          match P.underlying tx with
          | some .string => if sz = 1 then (cx s).bind fun s => (cx x).map fun x => .app sz bytes true s x else none
          | some (.slice _) => (cx s).bind fun s => (cx x).map fun x => .app sz bytes false s x
          | some (.int _) => if oneL z.cells.toList && decide (0 < sz) then (cx s).bind fun s => (cx x).map fun x => .appz sz bytes (z.cells.toList.map cv1) s x else none
          | _ => none
        else none
      | _ => none
    | _, _ => none
  | .call { callee := .builtin .copy, args, argTypes } => match args.toList, argTypes.toList with
    | [s, x], [t, _] => match P.underlying t with
      | some (.slice e) => (szB P e).bind fun sz => (cx s).bind fun s => (cx x).map fun x => .cpy sz s x
      | _ => none
    | _, _ => none
  | .call { callee := .builtin .clear, args, argTypes } => match args.toList, argTypes.toList with
    | [s], [t] => match P.underlying t with
      | some (.slice e) => (szB P e).bind fun sz => (zeroB P e).bind fun z => if oneL z.cells.toList && decide (z.cells.size = sz) && decide (0 < sz) then (cx s).map fun s => .clr sz (z.cells.toList.map cv1) s else none
      | _ => none
    | _, _ => none
  | .makeSlice t n c => match P.underlying t with
    | some (.slice e) => (szB P e).bind fun sz => (zeroB P e).bind fun z => ((P.info? e).map (·.bytes)).bind fun bytes =>
      if oneL z.cells.toList && decide (z.cells.size = sz) && decide (0 < sz) then (cx n).bind fun n => (cx c).map fun c => .mk sz bytes (z.cells.toList.map cv1) n c else none
    | _ => none
  | .convert src dst x => match P.underlying src, P.underlying dst with
    | some .string, some (.slice e) => (match P.underlying e with | some (.int .u8) => (cx x).map .byt | _ => none)
    | some (.slice _), some (.slice e) => if src = dst then (match P.underlying e with | some (.int .u8) => (cx x).map .fz | _ => none) else none
    | _, _ => none
  | _ => none
section
variable {E : Ent} {φ : Nat → Option Loc} {M : Nat → Prop} {L : Nat → List Nat} {st st' : St} {a : Act} {w : World} {P : Program} {o : Oper}
theorem w_app {ty t tx e : TypeId} {s x : Operand} {s' x' : AX} {args : Array Operand} {ts : Array TypeId} {sz bytes n d : Nat} {z : Value} {str : Bool} {xs : List AV} {y : AV}
    (ho : o.op = .call { callee := .builtin .append, args := args, argTypes := ts }) (hty : o.type = ty) (hargs : args.toList = [s, x]) (hts : ts.toList = [t, tx]) (ht : P.underlying t = some (.slice e)) (hi : infoB P e sz bytes z) (hzs : z.cells.size = sz) (hby : 0 < bytes)
    (hs : cx s = some s') (hx : cx x = some x') (hstr : if str then P.underlying tx = some .string ∧ sz = 1 else ∃ e', P.underlying tx = some (.slice e')) (I : Inv E φ M L st a.tmps w)
    (hxs : srcOf st sz str x' = some (xs, n))
    (hy : weff (.app sz bytes str s' x') d st = some (y, st')) : Makes E a w P o y st' := by
  obtain rfl : args = #[s, x] := by rw [← Array.toList_inj]; exact hargs
  obtain rfl : ts = #[t, tx] := by rw [← Array.toList_inj]; exact hts
  have hvs := I.ev hs
  have hvx := I.ev hx
  have hsrc : SeqT P tx ∧ ∃ news, Src P w sz (a.eval x) n news ∧ Cs φ M w xs news [] ∧ xs.length = n * sz := by
    unfold srcOf at hxs
    cases str
    · simp only [Bool.false_eq_true, if_false] at hxs hstr
      exact ⟨.inr hstr, src_ok I hvx hxs⟩
    · simp only [if_true] at hxs hstr
      obtain ⟨h1, rfl⟩ := hstr
      split at hxs <;> cases hxs
      rename_i s0 hs0
      rw [hs0] at hvx
      obtain ⟨h2, _⟩ := vsc hvx
      rw [h2]
      exact ⟨.inl h1, _, src_string P w 1 s0, strCells_ok _ _ _ s0, by simp [strCells]⟩
  obtain ⟨htx, news, hsr, hcs, hlen⟩ := hsrc
  simp only [weff, hxs] at hy
  have hexec : ∀ {v w'}, (Builtin.append_ #[t, tx] ty #[a.eval s, a.eval x]).run P w = .ok v w' → (execOp a.eval o).run P w = .ok (.value v) w' := fun {v w'} h => by
    simp [execOp, ho, hty, resolve, invoke, builtin, h]
  have hsmall : ∀ {k : Nat}, k * bytes ≤ 140737488355328 → k ≤ 9223372036854775807 := fun {k} h => by
    have : k * 1 ≤ k * bytes := Nat.mul_le_mul_left _ hby
    omega
  split at hy
  · rename_i he hd
    split at hy <;> cases hy
    rename_i hb
    rw [he] at hvs
    obtain ⟨A, hA⟩ := vem hvs
    obtain ⟨v, w', φ', L', h1, h2, h3⟩ := app_em (ty := ty) (A := A) ht htx hi hzs hsr hcs hlen hb (hsmall hb) I hd
    exact ⟨v, w', φ', M, L', .inl (hexec (by rw [hA]; exact h1)), h2, h3⟩
  · rename_i b off len sz' lim he hd
    split at hy <;> (try cases hy)
    rename_i cs hb
    split at hy <;> cases hy
    rename_i hc
    obtain ⟨rfl, rfl, rfl, hl, hbb⟩ := hc
    rw [he] at hvs
    obtain ⟨v, w', φ', L', h1, h2, h3⟩ := app_sl (ty := ty) ht htx hi hzs hsr hcs hlen hbb (hsmall hbb) I hd hvs hb hl
    exact ⟨v, w', φ', M, L', .inl (hexec h1), h2, h3⟩
  · rename_i b off len cap sz' he hd
    split at hy <;> (try cases hy)
    rename_i cs hb
    split at hy <;> cases hy
    rename_i hc
    obtain ⟨rfl, hroom, hle⟩ := hc
    rw [he] at hvs
    obtain ⟨v, w', L', h1, h2, h3⟩ := app_pf (ty := ty) ht htx hi hsr hcs hlen I hvs hb hroom hle
    exact ⟨v, w', φ, M, L', .inl (hexec h1), h2, h3⟩
  · cases hy
theorem w_byt {s t e : TypeId} {x : Operand} {x' : AX} {sv : ByteArray} (ho : o.op = .convert s t x) (hs : P.underlying s = some .string) (ht : P.underlying t = some (.slice e)) (he : P.underlying e = some (.int .u8)) (hx : cx x = some x') (I : Inv E φ M L st a.tmps w) (hv : x'.ev st.ρ = .sc (.string sv)) :
    Makes E a w P o (.ro (strCells sv) sv.size) st := by
  have hvx := I.ev hx
  rw [hv] at hvx
  obtain ⟨h2, _⟩ := vsc hvx
  have hr := run_bytes_of_string (P := P) w s t e sv hs ht he
  have hcap : sv.size ≤ grownCap w sv.size 0 e := grownCap_ge w sv.size 0 e
  generalize grownCap w sv.size 0 e = c at hr hcap
  let w' := w.drew.alloc (.cells (bytesRow sv c) e ((bytesRow sv c).size, (bytesRow sv c).size + 1))
  have hlt : ∀ g, g < w.heap.size → w'.heap[g]? = w.heap[g]? := fun g hg => heap_alloc_lt w.drew _ hg
  have hgrow : w.heap.size < w'.heap.size := by show w.heap.size < (w.heap.push _).size; rw [Array.size_push]; exact Nat.lt_succ_self _
  have hMM : ∀ g, M g → M g ∨ g = w.heap.size := fun g h => .inl h
  have I' : Inv E φ (fun g => M g ∨ g = w.heap.size) L st a.tmps w' := by
    refine ⟨I.size, fun t => (I.env t).mono (fun _ _ h => h) hMM (fun g hg => hlt g (hg.elim (I.bound g) (by simp))), fun b cs h => ?_, I.fresh, I.nodup, I.disj, fun b cs h g hg hm => ?_, fun b cs h g hg => Nat.lt_trans (I.low b cs h g hg) hgrow, fun g hg => ?_, fun g hg => .inl (I.m0 g hg), fun g hg => ?_, I.own, I.os, I.tape, I.output, Nat.le_trans I.grown (Nat.le_of_lt hgrow), fun g h1 h2 => ?_, Keeps.trans I.keep (Keeps.of hlt)⟩
    · exact (I.root b cs h).mono (fun _ _ h => h) (fun h => h) hMM (fun g hg => hlt g (hg.elim (I.bound g) (I.low b cs h g)))
    · have := I.low b cs h g hg
      rcases hm with hm | rfl
      · exact I.notM b cs h g hg hm
      · omega
    · rcases hg with hg | rfl
      · exact Nat.lt_trans (I.bound g hg) hgrow
      · exact hgrow
    · rcases hg with hg | rfl
      · exact I.m1 g hg
      · exact .inr (.inr I.grown)
    · rw [hlt g (by have := I.grown; omega)]; exact I.frame g h1 h2
  have hcell : ∀ (j : Nat) (u : Value), (sv.data.toList.map fun b => Value.int .u8 b.toNat)[j]? = some u → w'.cell? ⟨w.heap.size, 0 + j, none⟩ = some u := fun j u hu => by
    have hh : w'.heap[w.heap.size]? = some (.cells (bytesRow sv c) e ((bytesRow sv c).size, (bytesRow sv c).size + 1)) := by
      show (w.heap.push _)[w.heap.size]? = _
      simp
    have hj := (List.getElem?_eq_some_iff.1 hu).1
    simp only [World.cell?, hh, Nat.zero_add]
    rw [bytesRow, Array.getElem?_append_left (by simpa using hj)]
    simpa using hu
  refine ⟨.slice (some ⟨w.heap.size, 0, none⟩) sv.size c, w', φ, fun g => M g ∨ g = w.heap.size, L, .inl ?_, I', ?_⟩
  · simp only [execOp, ho, h2, Sem.run_bind, hr]; rfl
  · have hco := strCells_ok φ (fun g => M g ∨ g = w.heap.size) w' sv
    exact .imm _ _ (.ro _ _ _ _ (sv.data.toList.map fun b => .int .u8 b.toNat) hcap (fun _ => ⟨_, _, rfl⟩) hco.len (fun j u hu => ⟨_, _, rfl, .inr rfl, hcell j u hu⟩) hco.one fun j y u hy hu => by
      simp only [strCells, List.getElem?_map, Option.map_eq_some_iff] at hy hu
      obtain ⟨b, hb, rfl⟩ := hy
      obtain ⟨b', hb', rfl⟩ := hu
      rw [hb] at hb'; cases hb'
      exact W.sc _ rfl)
theorem heap_freeze_ne (w : World) (a : Addr) {k : Nat} (h : k ≠ a.block) : (w.freeze a 1).heap[k]? = w.heap[k]? := by
  unfold World.freeze
  rw [if_neg (by decide)]
  simp only [Array.getElem?_modify]
  rw [if_neg (by omega)]
theorem heap_freeze_at (w : World) (a : Addr) {C : Array Value} {e : TypeId} {fr : Nat × Nat} (h : w.heap[a.block]? = some (.cells C e fr)) : ∃ fr', (w.freeze a 1).heap[a.block]? = some (.cells C e fr') := by
  unfold World.freeze
  rw [if_neg (by decide)]
  simp only [Array.getElem?_modify, if_true, h, Option.map_some]
  exact ⟨_, rfl⟩
theorem Keeps.freeze (w : World) (a : Addr) : Keeps w (w.freeze a 1) := fun k n hb => by
  obtain ⟨C, e, fr, h1, h2⟩ := hb
  by_cases h : k = a.block
  · subst h
    obtain ⟨fr', h3⟩ := heap_freeze_at w a h1
    exact ⟨C, e, fr', h3, h2⟩
  · exact ⟨C, e, fr, (heap_freeze_ne _ _ h).trans h1, h2⟩
theorem w_fz {t e : TypeId} {x : Operand} {x' : AX} {b len : Nat} {cs : List AV} (ho : o.op = .convert t t x) (ht : P.underlying t = some (.slice e)) (he : P.underlying e = some (.int .u8)) (hx : cx x = some x') (I : Inv E φ M L st a.tmps w) (hv : x'.ev st.ρ = .sl b 0 len 1 false) (hb : st.h b = some (some cs))
    (h0 : 0 < len) (hl : cs.length = len) (hs : cs.all scB = true) : Makes E a w P o (.ro cs len) (st.put b none) := by
  have hvx := I.ev hx
  rw [hv] at hvx
  rcases I.root b cs hb with ⟨rfl, _, _⟩ | ⟨l, C, us, F, r1, hB, hn, hc, hcells, hL⟩
  · simp at hl; omega
  obtain ⟨_, ⟨hz, _⟩ | ⟨l', c, hl', hval, hlc, hcap, _⟩⟩ := vsl hvx
  · omega
  rw [r1] at hl'; cases hl'
  obtain ⟨eo, fr, hobj, hnf⟩ := hB
  let w' := w.freeze ⟨l.g, C.size, none⟩ 1
  have hlt : ∀ g, g ≠ l.g → w'.heap[g]? = w.heap[g]? := fun g hg => heap_freeze_ne w ⟨l.g, C.size, none⟩ hg
  obtain ⟨fr', hat⟩ := heap_freeze_at w ⟨l.g, C.size, none⟩ hobj
  have hsz : w'.heap.size = w.heap.size := by show (w.freeze ⟨l.g, C.size, none⟩ 1).heap.size = _; unfold World.freeze; rw [if_neg (by decide)]; simp
  have hos : w'.os = w.os ∧ w'.tape = w.tape ∧ w'.output = w.output := by
    show (w.freeze ⟨l.g, C.size, none⟩ 1).os = _ ∧ (w.freeze ⟨l.g, C.size, none⟩ 1).tape = _ ∧ (w.freeze ⟨l.g, C.size, none⟩ 1).output = _
    unfold World.freeze; rw [if_neg (by decide)]; exact ⟨rfl, rfl, rfl⟩
  have hgL : l.g ∈ L b := by rw [hL]; simp
  have hMM : ∀ g, M g → M g ∨ g ∈ L b := fun g h => .inl h
  have hgM : ¬ M l.g := I.notM b cs hb l.g hgL
  have hst : ∀ b' cs', (st.put b none).h b' = some (some cs') → b' ≠ b ∧ st.h b' = some (some cs') := fun b' cs' h => by
    by_cases e : b' = b
    · subst e; simp only [St.put, upd_same] at h; cases h
    · simp only [St.put, upd_ne _ _ e] at h; exact ⟨e, h⟩
  have I' : Inv E φ (fun g => M g ∨ g ∈ L b) L (st.put b none) a.tmps w' := by
    refine ⟨I.size, fun t => (I.env t).mono (fun _ _ h => h) hMM (fun g hg => hlt g fun e => by rcases hg with hg | hg; exact hgM (e ▸ hg); cases hg), fun b' cs' h => ?_, fun b' h => ?_, fun b' cs' h => I.nodup b' cs' (hst b' cs' h).2, fun b1 b2 c1 c2 h12 e1 e2 => I.disj b1 b2 c1 c2 h12 (hst b1 c1 e1).2 (hst b2 c2 e2).2, fun b' cs' h g hg hm => ?_, fun b' cs' h g hg => by rw [hsz]; exact I.low b' cs' (hst b' cs' h).2 g hg, fun g hg => ?_, fun g hg => .inl (I.m0 g hg), fun g hg => ?_, fun b' cs' h => I.own b' cs' (hst b' cs' h).2, hos.1.trans I.os, hos.2.1.trans I.tape, hos.2.2.trans I.output, by rw [hsz]; exact I.grown, fun g h1 h2 => ?_, Keeps.trans (w1 := w) I.keep (Keeps.freeze w ⟨l.g, C.size, none⟩)⟩
    · obtain ⟨hne, h⟩ := hst b' cs' h
      refine (I.root b' cs' h).mono (fun _ _ h => h) (fun h => h) hMM (fun g hg => hlt g fun e => ?_)
      subst e
      rcases hg with hg | hg
      · exact hgM hg
      · exact I.disj b' b cs' cs hne h hb _ hg hgL
    · by_cases e : b' = b
      · subst e; simp only [St.put, upd_same] at h; cases h
      · simp only [St.put, upd_ne _ _ e] at h; exact I.fresh b' h
    · obtain ⟨hne, h⟩ := hst b' cs' h
      rcases hm with hm | hm
      · exact I.notM b' cs' h g hg hm
      · exact I.disj b' b cs' cs hne h hb g hg hm
    · rw [hsz]
      rcases hg with hg | hg
      · exact I.bound g hg
      · exact I.low b cs hb g hg
    · rcases hg with hg | hg
      · exact I.m1 g hg
      · exact .inr (I.own b cs hb g hg)
    · refine (hlt g fun e => ?_).trans (I.frame g h1 h2)
      subst e
      rcases I.own b cs hb _ hgL with h | h
      · exact h2 h
      · omega
  have hcell : ∀ (j : Nat) (u : Value), us[j]? = some u → w'.cell? ⟨l.g, l.o + 0 + j, none⟩ = some u := fun j u hu => by
    have := hcells j u hu
    simp only [World.cell?, Nat.add_zero]
    rw [show w'.heap[l.g]? = some (.cells C eo fr') from hat]
    simpa using this
  have hrun : (convert t t (.slice (some ⟨l.g, l.o + 0, none⟩) len c)).run P w = .ok (.slice (some ⟨l.g, l.o + 0, none⟩) len c) w' := by
    have hshape : w.shape? l.g = some (eo, C.size) := by simp [World.shape?, hobj]
    simp [convert, run_underB ht, run_underB he, markStringish, hshape]
    rfl
  refine ⟨.slice (some ⟨l.g, l.o + 0, none⟩) len c, w', φ, fun g => M g ∨ g ∈ L b, L, .inl ?_, I', ?_⟩
  · simp only [execOp, ho, hval, Sem.run_bind, hrun]; rfl
  · refine .imm _ _ (.ro _ _ _ _ us hlc (fun _ => ⟨_, _, rfl⟩) hc.len (fun j u hu => ⟨_, _, rfl, .inr hgL, hcell j u hu⟩) hc.one fun j y u hy hu => ?_)
    have hsy : scB y = true := List.all_eq_true.1 hs y (List.mem_of_getElem? hy)
    cases y <;> cases hsy
    obtain ⟨Fs, k1, k2, k3, k4, k5⟩ := hc
    have hj : j < Fs.length := by rw [k2]; exact (List.getElem?_eq_some_iff.1 hy).1
    obtain ⟨rfl, ho1⟩ := vsc (k5 j _ u _ hy hu (List.getElem?_eq_getElem hj))
    exact W.sc _ ho1
theorem run_mapM_places {fs : Array Field} (h : ∀ f ∈ fs.toList, (szB P f.type).isSome = true) :
    ∃ pl : Array (Nat × Nat), (fs.mapM fun f => do pure (f.offset, ← sizeOf f.type) : Sem _).run P w = .ok pl w ∧ ∀ i, pl[i]? = placeB P fs i := by
  obtain ⟨l, rfl⟩ : ∃ l : List Field, fs = l.toArray := ⟨fs.toList, by simp⟩
  rw [List.mapM_toArray]
  have key : ∀ (l : List Field) (w : World), (∀ f ∈ l, (szB P f.type).isSome = true) → (l.mapM fun f => do pure (f.offset, ← sizeOf f.type) : Sem _).run P w = .ok (l.map fun f => (f.offset, (szB P f.type).getD 0)) w := by
    intro l
    induction l with
    | nil => intro w _; rfl
    | cons f l ih =>
      intro w h
      obtain ⟨n, hn⟩ := Option.isSome_iff_exists.1 (h f (by simp))
      simp only [List.mapM_cons, Sem.run_bind, run_sizeB hn, Result.andThen_ok, Sem.run_pure, ih w (fun f hf => h f (by simp [hf])), List.map_cons, hn, Option.getD_some]
  refine ⟨(l.map fun f => (f.offset, (szB P f.type).getD 0)).toArray, by rw [Sem.run_map, key l w (by simpa using h)]; rfl, fun i => ?_⟩
  simp only [placeB, List.getElem?_toArray, List.getElem?_map]
  cases hf : l[i]? with
  | none => rfl
  | some f =>
    obtain ⟨n, hn⟩ := Option.isSome_iff_exists.1 (h f (by simpa using List.mem_of_getElem? hf))
    simp [hn]
theorem w_build {t : TypeId} {fs : Array Field} {z : Value} {parts : Array (Nat × Operand)} {ps : List (Nat × Nat × AX)} {cs : List AV} (ho : o.op = .build t parts) (ht : P.underlying t = some (.struct fs)) (hz : zeroB P t = some z) (h1 : oneL z.cells.toList = true)
    (hfs : ∀ f ∈ fs.toList, (szB P f.type).isSome = true) (hps : partsB (placeB P fs) parts.toList = some ps) (I : Inv E φ M L st a.tmps w) (hc : fillA st.ρ (z.cells.toList.map cv1) ps = some cs) : Makes E a w P o (.agg cs) st := by
  obtain ⟨pl, hpl, hpl2⟩ := run_mapM_places (P := P) (w := w) hfs
  obtain ⟨vs, h2, h3⟩ := fill_ok I hps (Cs.consts h1) hc
  refine ⟨_, w, φ, M, L, .inl ?_, I, V.aggOf h3⟩
  have h4 : Instr.fill (fun x => pl[x]?) z.cells ((parts.map fun x => (x.1, a.eval x.2)).toList) = some vs.toArray := by
    rw [← h2]
    simp only [hpl2]
    congr 1
    simp
  simp only [execOp, ho, Instr.build, Sem.run_bind, run_zeroB hz, Result.andThen_ok, run_underB ht, hpl, h4]
  rfl
theorem w_buildA {t e : TypeId} {n sz : Nat} {z : Value} {parts : Array (Nat × Operand)} {ps : List (Nat × Nat × AX)} {cs : List AV} (ho : o.op = .build t parts) (ht : P.underlying t = some (.array n e)) (hsz : szB P e = some sz) (hz : zeroB P t = some z) (h1 : oneL z.cells.toList = true)
    (hps : partsB (fun i => some (i * sz, sz)) parts.toList = some ps) (I : Inv E φ M L st a.tmps w) (hc : fillA st.ρ (z.cells.toList.map cv1) ps = some cs) : Makes E a w P o (.agg cs) st := by
  obtain ⟨vs, h2, h3⟩ := fill_ok (place := fun i => some (i * sz, sz)) I hps (Cs.consts h1) hc
  refine ⟨_, w, φ, M, L, .inl ?_, I, V.aggOf h3⟩
  have h4 : Instr.fill (fun i => some (i * sz, sz)) z.cells ((parts.map fun x => (x.1, a.eval x.2)).toList) = some vs.toArray := by
    simpa using h2
  simp only [execOp, ho, Instr.build, Sem.run_bind, run_zeroB hz, Result.andThen_ok, run_underB ht, run_sizeB hsz, h4]
  rfl
theorem rep_getElem (zs : List Value) (n j : Nat) (hj : j < n * zs.length) : ((List.replicate n zs).flatten)[j]? = zs[j % zs.length]? := by
  induction n generalizing j with
  | zero => omega
  | succ n ih =>
    rw [List.replicate_succ, List.flatten_cons]
    by_cases h : j < zs.length
    · rw [List.getElem?_append_left h, Nat.mod_eq_of_lt h]
    · rw [List.getElem?_append_right (by omega), ih _ (by rw [Nat.succ_mul] at hj; omega)]
      congr 1
      exact (Nat.mod_eq_sub_mod (by omega)).symm
theorem madeCells_rep {z : Value} {sz n : Nat} (hz : z.cells.size = sz) (hp : 0 < sz) (m : Nat) (hm : n ≤ m) : ∀ (j : Nat) (u : Value), ((List.replicate n z.cells.toList).flatten)[j]? = some u → (madeCells z.cells (m * sz))[j]? = some u := by
  intro j u hj
  have hl : z.cells.toList.length = sz := by simpa using hz
  have hlen : ((List.replicate n z.cells.toList).flatten).length = n * sz := by simp [hz]
  have hjn : j < n * sz := by rw [← hlen]; exact (List.getElem?_eq_some_iff.1 hj).1
  rw [rep_getElem _ _ _ (by rw [hl]; exact hjn), hl] at hj
  have hms : n * sz ≤ m * sz := Nat.mul_le_mul_right _ hm
  have hmod : j % sz < z.cells.size := by rw [hz]; exact Nat.mod_lt _ hp
  simp only [madeCells, Array.getElem?_map]
  rw [Array.getElem?_eq_getElem (by simp; omega)]
  simp only [Array.getElem_range, Option.map_some, hz]
  rw [getElem!_pos z.cells (j % sz) hmod]
  rw [← hj]
  simp [hmod]
theorem consts_rep {z : Value} (h1 : oneL z.cells.toList = true) (n : Nat) : Cs φ M w (List.replicate n (z.cells.toList.map cv1)).flatten (List.replicate n z.cells.toList).flatten [] := by
  have : (List.replicate n (z.cells.toList.map cv1)).flatten = ((List.replicate n z.cells.toList).flatten).map cv1 := by
    rw [List.map_flatten, List.map_replicate]
  rw [this]
  refine Cs.consts ?_
  rw [oneL, List.all_eq_true]
  intro x hx
  obtain ⟨l, hl, hx⟩ := List.mem_flatten.1 hx
  rw [(List.mem_replicate.1 hl).2] at hx
  exact List.all_eq_true.1 h1 x hx
theorem w_mk {t e : TypeId} {n c : Operand} {n' c' : AX} {sz bytes d : Nat} {z : Value} {y : AV} (ho : o.op = .makeSlice t n c) (ht : P.underlying t = some (.slice e)) (hi : infoB P e sz bytes z) (hzs : z.cells.size = sz) (hp : 0 < sz) (h1 : oneL z.cells.toList = true)
    (hn : cx n = some n') (hc : cx c = some c') (I : Inv E φ M L st a.tmps w) (hy : weff (.mk sz bytes (z.cells.toList.map cv1) n' c') d st = some (y, st')) : Makes E a w P o y st' := by
  simp only [weff] at hy
  split at hy <;> (try cases hy)
  rename_i k1 n0 k2 c0 hd hn0 hc0
  split at hy <;> cases hy
  rename_i hcond
  obtain ⟨h2, h3, h4, h5⟩ := hcond
  have e1 := I.ev hn
  rw [hn0] at e1
  obtain ⟨e1, _⟩ := vsc e1
  have e2 := I.ev hc
  rw [hc0] at e2
  obtain ⟨e2, _⟩ := vsc e2
  obtain ⟨i, hi, rfl, rfl, hz⟩ := hi
  have hr := run_make (P := P) w t e i z ht hi hz k1 k2 n0 c0 h2 h3 (by rw [Int.mul_comm]; exact h4) h5
  have hlen : (List.replicate n0.toNat z.cells.toList).flatten.length = n0.toNat * i.size := by simp [hzs]
  have I' := I.new hd (consts_rep h1 n0.toNat) (C := madeCells z.cells (c0.toNat * i.size)) (madeCells_rep hzs hp c0.toNat (by omega)) e
  refine ⟨.slice (some ⟨w.heap.size, 0, none⟩) n0.toNat c0.toNat, _, _, _, _, .inl ?_, I', ?_⟩
  · simp only [execOp, ho, e1, e2, Sem.run_bind, hr]; rfl
  refine V.sl d 0 n0.toNat i.size false ⟨w.heap.size, 0, (madeCells z.cells (c0.toNat * i.size)).size⟩ c0.toNat (upd_same _ _ _) (by omega) (by simp [size_madeCells]) (fun h => by cases h)
theorem w_bsl {t e : TypeId} {len sz d : Nat} {z : Value} {parts : Array (Nat × Operand)} {ps : List (Nat × Nat × AX)} {cs : List AV} (ho : o.op = .buildSlice t len parts) (ht : P.underlying t = some (.slice e)) (hsz : szB P e = some sz) (hz : zeroB P e = some z) (h1 : oneL z.cells.toList = true)
    (hsm : len * sz ≤ 2 ^ 24) (hp : 0 < sz) (hzs : z.cells.size = sz) (hps : partsB (fun i => some (i * sz, sz)) parts.toList = some ps) (I : Inv E φ M L st a.tmps w) (hd : st.h d = none) (hc : fillA st.ρ (List.replicate len (z.cells.toList.map cv1)).flatten ps = some cs) :
    Makes E a w P o (.sl d 0 len sz false) (st.put d (some cs)) := by
  obtain ⟨vs, h2, h3⟩ := fill_ok I (place := fun i => some (i * sz, sz)) (parts := parts.toList) hps (consts_rep h1 len) hc
  have hlen0 : (List.replicate len z.cells.toList).flatten.length = len * sz := by simp [hzs]
  have hlenA : ∀ (ps : List (Nat × Nat × AX)) (z cs : List AV), fillA st.ρ z ps = some cs → cs.length = z.length := by
    intro ps
    induction ps with
    | nil => intro z cs h; simp only [fillA, Option.some.injEq] at h; rw [h]
    | cons p ps ih =>
      intro z cs h
      obtain ⟨off, n, x⟩ := p
      simp only [fillA] at h
      split at h <;> (try cases h)
      split at h <;> (try cases h)
      rw [ih _ _ h, over_length]
  have hcl : cs.length = len * sz := by rw [hlenA ps _ _ hc, ← (consts_rep (φ := φ) (M := M) (w := w) h1 len).len, hlen0]
  have I' := I.new hd h3 (C := vs.toArray) (fun j u h => by simpa using h) e
  have hvl : vs.length = len * sz := by rw [h3.len, hcl]
  have h4 : Instr.fill (fun i => some (i * sz, sz)) (List.replicate len z.cells.toList).flatten.toArray ((parts.map fun x => (x.1, a.eval x.2)).toList) = some vs.toArray := by
    rw [← h2]; congr 1; simp
  have hmade : ¬ len * sz = 0 → (Array.range (len * sz)).map (fun x => z.cells[x % z.cells.size]!) = (List.replicate len z.cells.toList).flatten.toArray := by
    intro h0
    apply Array.ext'
    apply List.ext_getElem?
    intro j
    by_cases hj : j < len * sz
    · have := List.getElem?_eq_getElem (l := (List.replicate len z.cells.toList).flatten) (i := j) (by omega)
      have h9 := madeCells_rep hzs hp len (Nat.le_refl _) j _ this
      simp only [madeCells] at h9
      rw [List.toList_toArray, this, Array.getElem?_toList, h9]
    · rw [List.getElem?_eq_none (by simp; omega), List.getElem?_eq_none (by simp only; omega)]
  have hsm' : ¬ 16777216 < len * sz := by omega
  rw [Array.toList_map] at h4
  refine ⟨.slice (some ⟨w.heap.size, 0, none⟩) len len, _, _, _, _, .inl ?_, I', ?_⟩
  · by_cases h0 : len * sz = 0
    · have hl0 : len = 0 := by rcases Nat.mul_eq_zero.1 h0 with h | h; exact h; omega
      subst hl0
      simp only [List.replicate_zero, List.flatten_nil] at h4
      simp [execOp, ho, Instr.buildSlice, run_underB ht, run_sizeB hsz, Array.range_zero', h4, newRow]
    · have h5 := hmade h0
      simp [execOp, ho, Instr.buildSlice, run_underB ht, run_sizeB hsz, h0, hsm', run_zeroB hz, h5, h4, newRow]
  · refine V.sl d 0 len sz false ⟨w.heap.size, 0, vs.toArray.size⟩ len (upd_same _ _ _) (Nat.le_refl _) (by simp [hvl]) (fun h => by cases h)
theorem zeroCells_rep {z : Value} {sz : Nat} (hzs : z.cells.size = sz) (hp : 0 < sz) (n : Nat) : Builtin.zeroCells z.cells n = (List.replicate n z.cells.toList).flatten.toArray := by
  have hl : z.cells.toList.length = sz := by simpa using hzs
  have hlen : ((List.replicate n z.cells.toList).flatten).length = n * sz := by simp [hzs]
  apply Array.ext'
  apply List.ext_getElem?
  intro j
  by_cases hj : j < n * sz
  · have := List.getElem?_eq_getElem (l := (List.replicate n z.cells.toList).flatten) (i := j) (by omega)
    have h9 := madeCells_rep hzs hp n (Nat.le_refl _) j _ this
    rw [List.toList_toArray, this, Array.getElem?_toList, ← h9]
    simp only [madeCells, Builtin.zeroCells, hzs]
  · have hzl : (Builtin.zeroCells z.cells n).toList.length = n * sz := by rw [Array.length_toList, size_zeroCells, hzs]
    rw [List.getElem?_eq_none (by omega), List.getElem?_eq_none (by simp only; omega)]
theorem run_app_zeros {t tx ty e : TypeId} {sz bytes n sLen sCap : Nat} {z : Value} {base : Option Addr} {olds : List Value} {kq kn : IntKind} (ht : P.underlying t = some (.slice e)) (htx : P.underlying tx = some (.int kn)) (hi : infoB P e sz bytes z)
    (hp : 0 < sz) (hn : 0 < n) (hg : sCap < sLen + n) (hb : (sLen + n) * bytes ≤ 140737488355328) (h63 : sLen + n ≤ 9223372036854775807) (hnb : n * bytes ≤ 281474976710656)
    (ho : (Builtin.firstCells sz sLen (.slice base sLen sCap)).run P w.drew = .ok olds.toArray w.drew) :
    (Builtin.append_ #[t, tx] ty #[.slice base sLen sCap, .int kq n]).run P w =
      .ok (.slice (some ⟨w.heap.size, 0, none⟩) (sLen + n) (grownCap w (sLen + n) sCap e)) (w.drew.alloc (.cells (olds.toArray ++ Builtin.zeroCells z.cells n ++ Builtin.zeroCells z.cells (grownCap w (sLen + n) sCap e - (sLen + n))) e)) := by
  obtain ⟨i, hi, rfl, rfl, hz⟩ := hi
  have hfit := growslice_fits hg hb
  have e1 : IntKind.i64.wrap (n : Int) = n := by
    simp [IntKind.wrap, IntKind.bits, IntKind.signed]
    omega
  have e2 : ¬ (sLen + n ≤ sCap) := by omega
  have e3 : ¬ (9223372036854775807 < ((sLen : Int) + (n : Int))) := by omega
  have e4 : ¬ (281474976710656 < Builtin.nextslicecap (sLen + n) sCap * i.bytes) := by omega
  have e5 : ¬ (281474976710656 < (n : Int) * (i.bytes : Int)) := by rw [← Int.natCast_mul]; omega
  have e6 : ¬ ((n : Int) < 0) := by omega
  have e7 : n ≠ 0 := by omega
  have e8 : ¬ (n * i.size = 0) := Nat.mul_ne_zero e7 (by omega)
  simp [Builtin.append_, run_underB ht, run_underB htx, sizeOf, typeInfo, zeroValue, hi, hz, asInt, asIntOf, e1, e2, e3, e4, e5, e6, e8, Question.forced, ho, newRow, grownCap]
theorem w_appz {ty t tn e : TypeId} {kn : IntKind} {s x : Operand} {s' x' : AX} {args : Array Operand} {ts : Array TypeId} {sz bytes d : Nat} {z : Value} {y : AV}
    (ho : o.op = .call { callee := .builtin .append, args := args, argTypes := ts }) (hty : o.type = ty) (hargs : args.toList = [s, x]) (hts : ts.toList = [t, tn]) (ht : P.underlying t = some (.slice e)) (htn : P.underlying tn = some (.int kn)) (hi : infoB P e sz bytes z) (hzs : z.cells.size = sz) (hby : 0 < bytes) (hp : 0 < sz) (h1 : oneL z.cells.toList = true)
    (hs : cx s = some s') (hx : cx x = some x') (I : Inv E φ M L st a.tmps w) (hy : weff (.appz sz bytes (z.cells.toList.map cv1) s' x') d st = some (y, st')) : Makes E a w P o y st' := by
  obtain rfl : args = #[s, x] := by rw [← Array.toList_inj]; exact hargs
  obtain rfl : ts = #[t, tn] := by rw [← Array.toList_inj]; exact hts
  have hvs := I.ev hs
  have hvx := I.ev hx
  simp only [weff] at hy
  split at hy <;> (try cases hy)
  rename_i b off len cap sz' kk k he hk hd
  split at hy <;> (try cases hy)
  rename_i cs hb
  split at hy <;> cases hy
  rename_i hc
  obtain ⟨rfl, hk0, hgrow, hbb, hle, hpl⟩ := hc
  rw [he] at hvs
  rw [hk] at hvx
  obtain ⟨ex, _⟩ := vsc hvx
  obtain ⟨kn', rfl⟩ : ∃ kn' : Nat, k = kn' := ⟨k.toNat, by omega⟩
  simp only [Int.toNat_natCast] at hgrow hbb ⊢
  have hkpos : 0 < kn' := by omega
  have h63 : len + kn' ≤ 9223372036854775807 := by
    have : (len + kn') * 1 ≤ (len + kn') * bytes := Nat.mul_le_mul_left _ hby
    omega
  have hkb : kn' * bytes ≤ 281474976710656 := by
    have : kn' * bytes ≤ (len + kn') * bytes := Nat.mul_le_mul_right _ (by omega)
    omega
  obtain ⟨A, hsv⟩ : ∃ A, a.eval s = .slice A len cap := (vpflen hvs)
  obtain ⟨olds, hold, hco, hol⟩ : ∃ olds : List Value, (Builtin.firstCells sz len (.slice A len cap)).run P w.drew = .ok olds.toArray w.drew ∧ Cs φ M w ((cs.drop off).take (len * sz)) olds [] ∧ olds.length = len * sz := by
    rw [hsv] at hvs
    obtain ⟨_, ⟨rfl, rfl, A', e⟩ | ⟨l, hl, e, k1, k2⟩⟩ := vpf hvs
    · refine ⟨[], ?_, by simpa using Cs.nil _ _ _, by simp⟩
      cases A <;> simp [Builtin.firstCells, loadCells, loadCellsFrom]
    · simp only [Value.slice.injEq, and_true] at e
      subst e
      obtain ⟨news, e1, e2, e3⟩ := src_blk I hb ⟨hle, hpl⟩ hl
      exact ⟨news, (src_slice (P := P) (w := w) (sz := sz) (n := len) (c := cap) (A := some ⟨l.g, l.o + off, none⟩) (news := news) e3 (fun j u hj => ⟨_, _, rfl, e1 j u hj⟩) (fun h => by cases h)).drew, e2, e3⟩
  have hr := run_app_zeros (P := P) (w := w) (ty := ty) (kq := kk) ht htn hi hp hkpos hgrow hbb h63 hkb hold
  have hge := grownCap_ge w (len + kn') cap e
  generalize grownCap w (len + kn') cap e = c' at hr hge
  have hcat : Cs φ M w ((cs.drop off).take (len * sz) ++ (List.replicate kn' (z.cells.toList.map cv1)).flatten) (olds ++ (List.replicate kn' z.cells.toList).flatten) [] := by
    have := hco.app (consts_rep (φ := φ) (M := M) (w := w) h1 kn')
    simpa using this
  have I' := I.newRow hd hcat (C := olds.toArray ++ Builtin.zeroCells z.cells kn' ++ Builtin.zeroCells z.cells (c' - (len + kn'))) (fun j u h => by
    rw [zeroCells_rep hzs hp kn', show (olds.toArray ++ (List.replicate kn' z.cells.toList).flatten.toArray : Array Value) = (olds ++ (List.replicate kn' z.cells.toList).flatten).toArray by simp]; exact app_getElem j u h) e (by simp) (by simp)
  have hrl : ((List.replicate kn' z.cells.toList).flatten).length = kn' * sz := by simp [hzs]
  have hCs : (olds.toArray ++ Builtin.zeroCells z.cells kn' ++ Builtin.zeroCells z.cells (c' - (len + kn'))).size = c' * sz := by
    simp only [Array.size_append, List.size_toArray, size_zeroCells, hzs, hol, ← Nat.add_mul]
    congr 1; omega
  refine ⟨.slice (some ⟨w.heap.size, 0, none⟩) (len + kn') c', _, _, M, _, .inl ?_, I', ?_⟩
  · rw [show (execOp a.eval o).run P w = ((Builtin.append_ #[t, tn] ty #[a.eval s, a.eval x]).run P w).andThen (fun v w' => .ok (.value v) w') by simp [execOp, ho, hty, resolve, invoke, builtin], hsv, ex, hr]
    rfl
  · exact V.sl d 0 (len + kn') sz false _ _ (upd_same _ _ _) hge (by simp only [hCs]; omega) (fun h => by cases h)
theorem w_cpy {t tx e : TypeId} {s x : Operand} {s' x' : AX} {args : Array Operand} {ts : Array TypeId} {sz d : Nat} {y : AV}
    (ho : o.op = .call { callee := .builtin .copy, args := args, argTypes := ts }) (hargs : args.toList = [s, x]) (hts : ts.toList = [t, tx]) (ht : P.underlying t = some (.slice e)) (hz : szB P e = some sz)
    (hs : cx s = some s') (hx : cx x = some x') (I : Inv E φ M L st a.tmps w) (hy : weff (.cpy sz s' x') d st = some (y, st')) : Makes E a w P o y st' := by
  obtain rfl : args = #[s, x] := by rw [← Array.toList_inj]; exact hargs
  obtain rfl : ts = #[t, tx] := by rw [← Array.toList_inj]; exact hts
  have hvs := I.ev hs
  have hvx := I.ev hx
  simp only [weff] at hy
  split at hy <;> (try cases hy)
  rename_i b off len sz' n hdst hlen
  split at hy <;> (try cases hy)
  rename_i xs n' cs hxs hb
  split at hy <;> cases hy
  rename_i hc
  obtain ⟨rfl, hle⟩ := hc
  obtain ⟨A, c, hv, hcut⟩ := cut_ok (sz := sz) hvx hlen (Nat.min_le_left n len)
  obtain ⟨A', c', news, hv', h1, h2, h3, h4⟩ := src_ok2 I hcut hxs
  cases hv'
  have hfst : (Builtin.firstCells sz (min n len) (.slice A n c)).run P w = .ok news.toArray w := by
    have := (src_slice (P := P) (w := w) (sz := sz) (n := min n len) (c := c) (A := A) (news := news) (by rw [h3.len, h4]) h1 h2).cells
    cases A <;> exact this
  have hexec : ∀ {v w'}, (Builtin.copy_ #[t, tx] o.type #[a.eval s, a.eval x]).run P w = .ok v w' → (execOp a.eval o).run P w = .ok (.value v) w' := fun {v w'} h => by
    simp [execOp, ho, resolve, invoke, builtin, h]
  rcases dst_ok hvs hdst with ⟨rfl, A', hd'⟩ | ⟨l, c', hl, hd', hln⟩
  · rw [Nat.min_zero] at hfst h4 ⊢
    obtain rfl : xs = [] := List.length_eq_zero_iff.1 (by simpa using h4)
    obtain rfl : news = [] := List.length_eq_zero_iff.1 h3.len
    refine ⟨.int .i64 0, w, φ, M, L, .inl (hexec ?_), by rw [putX_nil, put_same hb]; exact I, V.sc _ rfl⟩
    rw [hv, hd']
    cases A' <;> simp [Builtin.copy_, run_underB ht, Builtin.lenOf, run_sizeB hz, hfst, storeCells, goInt]
  · obtain ⟨w', L', k4, k5⟩ := Inv.storesX (P := P) hl xs news w L st cs off 0 I hb h3.len hle (by have := Nat.mul_le_mul_right sz (Nat.min_le_right n len); omega) h3.one h3.all
    refine ⟨.int .i64 (min n len : Nat), w', φ, M, L', .inl (hexec ?_), by simpa using k5, V.sc _ rfl⟩
    rw [hv, hd']
    have hmn : Nat.min n len = min n len := rfl
    simp [Builtin.copy_, run_underB ht, Builtin.lenOf, run_sizeB hz, hmn, hfst, k4, goInt]
theorem w_clr {t e : TypeId} {s : Operand} {s' : AX} {args : Array Operand} {ts : Array TypeId} {sz d : Nat} {z : Value} {y : AV}
    (ho : o.op = .call { callee := .builtin .clear, args := args, argTypes := ts }) (hargs : args.toList = [s]) (hts : ts.toList = [t]) (ht : P.underlying t = some (.slice e)) (hz : zeroB P e = some z) (hzs : z.cells.size = sz) (hp : 0 < sz) (h1 : oneL z.cells.toList = true)
    (hs : cx s = some s') (I : Inv E φ M L st a.tmps w) (hy : weff (.clr sz (z.cells.toList.map cv1) s') d st = some (y, st')) : Makes E a w P o y st' := by
  obtain rfl : args = #[s] := by rw [← Array.toList_inj]; exact hargs
  obtain rfl : ts = #[t] := by rw [← Array.toList_inj]; exact hts
  have hvs := I.ev hs
  simp only [weff] at hy
  split at hy <;> (try cases hy)
  rename_i b off len sz' hdst
  split at hy <;> (try cases hy)
  rename_i cs hb
  split at hy <;> cases hy
  rename_i hc
  obtain ⟨rfl, hle⟩ := hc
  have hexec : ∀ {v w'}, (Builtin.clear_ #[t] o.type #[a.eval s]).run P w = .ok v w' → (execOp a.eval o).run P w = .ok (.value v) w' := fun {v w'} h => by
    simp [execOp, ho, resolve, invoke, builtin, h]
  have hcs' := consts_rep (φ := φ) (M := M) (w := w) h1 len
  have hrl : ((List.replicate len z.cells.toList).flatten).length = len * sz := by simp [hzs]
  rcases dst_ok hvs hdst with ⟨rfl, A', hd'⟩ | ⟨l, c', hl, hd', hln⟩
  · simp only [List.replicate_zero, List.flatten_nil] at hcs' ⊢
    refine ⟨.tuple #[], w, φ, M, L, .inl (hexec ?_), by rw [putX_nil, put_same hb]; exact I, V.un _⟩
    rw [hd']
    cases A' <;> simp [Builtin.clear_, run_underB ht]
  · obtain ⟨w', L', k4, k5⟩ := Inv.storesX (P := P) hl (List.replicate len (z.cells.toList.map cv1)).flatten (List.replicate len z.cells.toList).flatten w L st cs off 0 I hb hcs'.len hle (by rw [← hcs'.len, hrl]; omega) hcs'.one hcs'.all
    refine ⟨.tuple #[], w', φ, M, L', .inl (hexec ?_), by simpa using k5, V.un _⟩
    rw [hd']
    cases len with
    | zero =>
      simp [storeCells] at k4
      simp [Builtin.clear_, run_underB ht, k4]
    | succ len =>
      simp [Builtin.clear_, run_underB ht, run_zeroB hz, zeroCells_rep hzs hp, k4]
theorem infoB_of {e : TypeId} {sz bytes : Nat} {z : Value} (h1 : szB P e = some sz) (h2 : zeroB P e = some z) (h3 : (P.info? e).map (·.bytes) = some bytes) : infoB P e sz bytes z := by
  unfold szB at h1
  unfold zeroB at h2
  cases hi : P.info? e with
  | none => rw [hi] at h1; cases h1
  | some i =>
    rw [hi] at h1 h2 h3
    simp only [Option.map_some, Option.some.injEq, Option.bind_some] at h1 h2 h3
    exact ⟨i, hi, h1, h3, h2⟩
theorem weff_ok {wo : WOp} (hw : wop P o = some wo) (I : Inv E φ M L st a.tmps w) {d : Nat} {y : AV} (hy : weff wo d st = some (y, st')) : Makes E a w P o y st' := by
  unfold wop at hw
  split at hw
  · rename_i t ho
    simp only [Option.bind_eq_some_iff] at hw
    obtain ⟨z, hz, hw⟩ := hw
    split at hw <;> cases hw
    rename_i h1
    simp only [weff] at hy
    split at hy <;> cases hy
    rename_i hd
    exact w_alloc ho hz h1 I hd
  · rename_i t x ho
    obtain ⟨x', hx, rfl⟩ := Option.map_eq_some_iff.1 hw
    simp only [weff] at hy
    split at hy <;> cases hy
    rename_i hd hc
    exact w_box ho hx I hd hc
  · rename_i t p x ho
    simp only [Option.bind_eq_some_iff, Option.map_eq_some_iff] at hw
    obtain ⟨p', hp, x', hx, n, hn, rfl⟩ := hw
    simp only [weff] at hy
    split at hy <;> (try cases hy)
    rename_i b off xs hb hxs
    split at hy <;> (try cases hy)
    rename_i cs hcs
    split at hy <;> cases hy
    rename_i hle
    exact w_store ho hp hx hn I hb hxs hcs hle
  · rename_i t parts ho
    split at hw <;> (try cases hw)
    · rename_i fs ht
      simp only [Option.bind_eq_some_iff] at hw
      obtain ⟨z, hz, hw⟩ := hw
      split at hw <;> (try cases hw)
      rename_i hc
      simp only [Bool.and_eq_true] at hc
      obtain ⟨ps, hps, rfl⟩ := Option.map_eq_some_iff.1 hw
      simp only [weff, Option.map_eq_some_iff, Prod.mk.injEq] at hy
      obtain ⟨cs, hcs, rfl, rfl⟩ := hy
      exact w_build ho ht hz hc.1 (fun f hf => by
        have := Array.all_eq_true'.1 hc.2 f (by simpa using hf)
        exact this) hps I hcs
    · rename_i n e ht
      simp only [Option.bind_eq_some_iff] at hw
      obtain ⟨sz, hsz, z, hz, hw⟩ := hw
      split at hw <;> (try cases hw)
      rename_i hc
      obtain ⟨ps, hps, rfl⟩ := Option.map_eq_some_iff.1 hw
      simp only [weff, Option.map_eq_some_iff, Prod.mk.injEq] at hy
      obtain ⟨cs, hcs, rfl, rfl⟩ := hy
      exact w_buildA ho ht hsz hz hc hps I hcs
  · rename_i t len parts ho
    split at hw <;> (try cases hw)
    rename_i e ht
    simp only [Option.bind_eq_some_iff] at hw
    obtain ⟨sz, hsz, z, hz, hw⟩ := hw
    split at hw <;> (try cases hw)
    rename_i hc
    simp only [Bool.and_eq_true, decide_eq_true_eq] at hc
    obtain ⟨ps, hps, rfl⟩ := Option.map_eq_some_iff.1 hw
    simp only [weff] at hy
    split at hy <;> cases hy
    rename_i hd hcs
    exact w_bsl ho ht hsz hz hc.1.1.1 hc.1.1.2 hc.1.2 hc.2 hps I hd hcs
  · rename_i args ts ho
    split at hw <;> (try cases hw)
    rename_i s x t tx hargs hts
    split at hw <;> (try cases hw)
    rename_i e ht
    simp only [Option.bind_eq_some_iff] at hw
    obtain ⟨sz, hsz, z, hz, bytes, hby, hw⟩ := hw
    split at hw <;> (try cases hw)
    rename_i hc
    simp only [Bool.and_eq_true, decide_eq_true_eq] at hc
    have hi := infoB_of hsz hz hby
    have key : ∀ str s' x', weff (.app sz bytes str s' x') d st = some (y, st') → ∃ xs n, srcOf st sz str x' = some (xs, n) := fun str s' x' h => by
      simp only [weff] at h
      split at h
      · cases h
      · exact ⟨_, _, by assumption⟩
    split at hw <;> (try cases hw)
    · rename_i htx
      split at hw <;> (try cases hw)
      rename_i h1
      simp only [Option.bind_eq_some_iff, Option.map_eq_some_iff] at hw
      obtain ⟨s', hs, x', hx, rfl⟩ := hw
      obtain ⟨xs, n, hxs⟩ := key _ _ _ hy
      exact w_app ho rfl hargs hts ht hi hc.1 hc.2 hs hx (by simp only [if_true]; exact ⟨htx, h1⟩) I hxs hy
    · rename_i e' htx
      simp only [Option.bind_eq_some_iff, Option.map_eq_some_iff] at hw
      obtain ⟨s', hs, x', hx, rfl⟩ := hw
      obtain ⟨xs, n, hxs⟩ := key _ _ _ hy
      exact w_app ho rfl hargs hts ht hi hc.1 hc.2 hs hx (by simp only [Bool.false_eq_true, if_false]; exact ⟨_, htx⟩) I hxs hy
    · rename_i kn htx
      split at hw <;> (try cases hw)
      rename_i h1
      simp only [Bool.and_eq_true, decide_eq_true_eq] at h1
      simp only [Option.bind_eq_some_iff, Option.map_eq_some_iff] at hw
      obtain ⟨s', hs, x', hx, rfl⟩ := hw
      exact w_appz ho rfl hargs hts ht htx hi hc.1 hc.2 h1.2 h1.1 hs hx I hy
  · rename_i args ts ho
    split at hw <;> (try cases hw)
    rename_i s x t tx hargs hts
    split at hw <;> (try cases hw)
    rename_i e ht
    simp only [Option.bind_eq_some_iff, Option.map_eq_some_iff] at hw
    obtain ⟨sz, hsz, s', hs, x', hx, rfl⟩ := hw
    exact w_cpy ho hargs hts ht hsz hs hx I hy
  · rename_i args ts ho
    split at hw <;> (try cases hw)
    rename_i s t hargs hts
    split at hw <;> (try cases hw)
    rename_i e ht
    simp only [Option.bind_eq_some_iff] at hw
    obtain ⟨sz, hsz, z, hz, hw⟩ := hw
    split at hw <;> (try cases hw)
    rename_i hc
    simp only [Bool.and_eq_true, decide_eq_true_eq] at hc
    simp only [Option.map_eq_some_iff] at hw
    obtain ⟨s', hs, rfl⟩ := hw
    exact w_clr ho hargs hts ht hz hc.1.2 hc.2 hc.1.1 hs I hy
  · rename_i t n c ho
    split at hw <;> (try cases hw)
    rename_i e ht
    simp only [Option.bind_eq_some_iff] at hw
    obtain ⟨sz, hsz, z, hz, bytes, hby, hw⟩ := hw
    split at hw <;> (try cases hw)
    rename_i hc
    simp only [Bool.and_eq_true, decide_eq_true_eq] at hc
    simp only [Option.bind_eq_some_iff, Option.map_eq_some_iff] at hw
    obtain ⟨n', hn, c', hcc, rfl⟩ := hw
    exact w_mk ho ht (infoB_of hsz hz hby) hc.1.2 hc.2 hc.1.1 hn hcc I hy
  · rename_i src dst x ho
    split at hw <;> (try cases hw)
    · rename_i e hs ht
      split at hw <;> (try cases hw)
      rename_i he
      obtain ⟨x', hx, rfl⟩ := Option.map_eq_some_iff.1 hw
      simp only [weff] at hy
      split at hy <;> cases hy
      rename_i sv hv
      exact w_byt ho hs ht he hx I hv
    · rename_i e0 e hs ht
      split at hw <;> (try cases hw)
      rename_i hsd
      subst hsd
      split at hw <;> (try cases hw)
      rename_i he
      obtain ⟨x', hx, rfl⟩ := Option.map_eq_some_iff.1 hw
      simp only [weff] at hy
      split at hy <;> (try cases hy)
      rename_i b len hv
      split at hy <;> (try cases hy)
      rename_i cs hb
      split at hy <;> cases hy
      rename_i hc
      exact w_fz ho ht he hx I hv hb hc.1 hc.2.1 hc.2.2
  · cases hw
end
end Go.Proofs.YtiejaibmcmicoaaGreatDoor.Am
