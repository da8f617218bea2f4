/- The operations that make or write memory, each with its proof; no condition. -/
import Derived.Test.YtiejaibmcmicoaaGreatDoorAm3
namespace Go.Proofs.YtiejaibmcmicoaaGreatDoor.Am
open Go
inductive WOp where
  | alloc (zs : List AV)
  | box (x : AX)
  | build (z : List AV) (parts : List (Nat × Nat × AX))
  | bsl (sz len : Nat) (z : List AV) (parts : List (Nat × Nat × AX))
  | store (n : Nat) (p x : AX)
  | app (sz bytes : Nat) (str : Bool) (s x : AX)
  | mk (sz bytes : Nat) (zs : List AV) (n c : AX)
  | appz (sz bytes : Nat) (zs : List AV) (s k : AX)
  | cpy (sz : Nat) (t x : AX)
  | clr (sz : Nat) (zs : List AV) (s : AX)
  | byt (x : AX)
  | fz (x : AX)
  deriving Inhabited
def dstA : AV → Option (Nat × Nat × Nat × Nat)
  | .sl b off len sz _ => some (b, off, len, sz)
  | .pf b off len _ sz => some (b, off, len, sz)
  | _ => none
def lenA : AV → Option Nat
  | .sl _ _ n _ _ => some n
  | .pf _ _ n _ _ => some n
  | .ro _ n => some n
  | .em => some 0
  | _ => none
def cutA (sz k : Nat) : AV → AV
  | .sl b off n s _ => .sl b off (min k n) s false
  | .pf b off n cap s => .pf b off (min k n) cap s
  | .ro cs n => .ro (cs.take (min k n * sz)) (min k n)
  | x => x
def srcCells (h : Nat → Option (Option (List AV))) (sz : Nat) : AV → Option (List AV × Nat)
  | .em => some ([], 0)
  | .ro cs len => if cs.length = len * sz then some (cs, len) else none
  | .sl b off len sz' _ => if sz = sz' then match h b with
    | some (some cs) => if off + len * sz ≤ cs.length ∧ plain.plainL ((cs.drop off).take (len * sz)) then some ((cs.drop off).take (len * sz), len) else none
    | _ => none else none
  | .pf b off len _ sz' => if sz = sz' then match h b with
    | some (some cs) => if off + len * sz ≤ cs.length ∧ plain.plainL ((cs.drop off).take (len * sz)) then some ((cs.drop off).take (len * sz), len) else none
    | _ => none else none
  | _ => none
def strCells (s : ByteArray) : List AV := s.data.toList.map fun b => .sc (.int .u8 b.toNat)
def srcOf (st : St) (sz : Nat) (str : Bool) (x : AX) : Option (List AV × Nat) :=
  if str then (match x.ev st.ρ with | .sc (.string s) => some (strCells s, s.size) | _ => none) else srcCells st.h sz (x.ev st.ρ)
def scB : AV → Bool
  | .sc _ => true
  | _ => false
def weff (op : WOp) (d : Nat) (st : St) : Option (AV × St) :=
  match op with
  | .alloc zs => match st.h d with | none => some (.ref d 0, st.put d (some zs)) | _ => none
  | .box x => match st.h d, cellsOf (x.ev st.ρ) with | none, some cs => some (.ref d 0, st.put d (some cs)) | _, _ => none
  | .build z parts => (fillA st.ρ z parts).map fun cs => (.agg cs, st)
  | .bsl sz len z parts => match st.h d, fillA st.ρ z parts with | none, some cs => some (.sl d 0 len sz false, st.put d (some cs)) | _, _ => none
  | .store n p x => match p.ev st.ρ, cellsOf (x.ev st.ρ) with
    | .ref b off, some xs => match st.h b with
      | some (some cs) => if xs.length = n ∧ off + xs.length ≤ cs.length then some (.un, st.put b (some (over cs off xs))) else none
      | _ => none
    | _, _ => none
  | .app sz bytes str s x =>
    match srcOf st sz str x with
    | none => none
    | some (xs, n) => match s.ev st.ρ, st.h d with
      | .em, none => if n * bytes ≤ 140737488355328 then some (.sl d 0 n sz false, st.put d (some xs)) else none
      | .sl b off len sz' lim, none => match st.h b with
        | some (some cs) =>
          if sz = sz' ∧ lim = false ∧ off = 0 ∧ len * sz = cs.length ∧ (len + n) * bytes ≤ 140737488355328 then some (.sl d 0 (len + n) sz false, (st.put b none).put d (some (cs ++ xs))) else none
        | _ => none
      | .pf b off len cap sz', none => match st.h b with
        | some (some cs) => if sz = sz' ∧ len + n ≤ cap ∧ off + len * sz ≤ cs.length then some (.pf b off (len + n) cap sz, st.put b (some (putX cs (off + len * sz) xs))) else none
        | _ => none
      | _, _ => none
  | .appz sz bytes zs s k => match s.ev st.ρ, k.ev st.ρ, st.h d with
    | .pf b off len cap sz', .sc (.int _ k), none => match st.h b with
      | some (some cs) => if sz = sz' ∧ 0 < k ∧ cap < len + k.toNat ∧ (len + k.toNat) * bytes ≤ 140737488355328 ∧ off + len * sz ≤ cs.length ∧ plain.plainL ((cs.drop off).take (len * sz)) = true then
          some (.sl d 0 (len + k.toNat) sz false, st.put d (some ((cs.drop off).take (len * sz) ++ (List.replicate k.toNat zs).flatten))) else none
      | _ => none
    | _, _, _ => none
  | .cpy sz t x => match dstA (t.ev st.ρ), lenA (x.ev st.ρ) with
    | some (b, off, len, sz'), some n => match srcCells st.h sz (cutA sz (min n len) (x.ev st.ρ)), st.h b with
      | some (xs, _), some (some cs) => if sz = sz' ∧ off ≤ cs.length then some (.sc (.int .i64 (min n len : Nat)), st.put b (some (putX cs off xs))) else none
      | _, _ => none
    | _, _ => none
  | .clr sz zs s => match dstA (s.ev st.ρ) with
    | some (b, off, len, sz') => match st.h b with
      | some (some cs) => if sz = sz' ∧ off ≤ cs.length then some (.un, st.put b (some (putX cs off (List.replicate len zs).flatten))) else none
      | _ => none
    | none => none
  | .fz x => match x.ev st.ρ with
    | .sl b 0 len 1 false => match st.h b with
      | some (some cs) => if 0 < len ∧ cs.length = len ∧ cs.all scB = true then some (.ro cs len, st.put b none) else none
      | _ => none
    | _ => none
  | .byt x => match x.ev st.ρ with | .sc (.string s) => some (.ro (strCells s) s.size, st) | _ => none
  | .mk sz bytes zs n c => match st.h d, n.ev st.ρ, c.ev st.ρ with
    | none, .sc (.int _ n), .sc (.int _ c) => if 0 ≤ n ∧ n ≤ c ∧ c * bytes ≤ 281474976710656 ∧ c ≤ 9223372036854775807 then some (.sl d 0 n.toNat sz false, st.put d (some (List.replicate n.toNat zs).flatten)) else none
    | _, _, _ => none
def zeroB (P : Program) (t : TypeId) : Option Value := (P.info? t).bind (·.zero)
theorem run_zeroB {P : Program} {t : TypeId} {v : Value} (h : zeroB P t = some v) (w : World) : (zeroValue t).run P w = .ok v w := by
  unfold zeroB at h
  unfold zeroValue typeInfo
  simp only [Sem.run_bind, run_program, Result.andThen_ok]
  cases hi : P.info? t with
  | none => rw [hi] at h; cases h
  | some i =>
    rw [hi] at h
    simp only [Option.bind_some] at h
    simp only [Sem.run_pure, Result.andThen_ok, h]
def oneL (l : List Value) : Bool := l.all (·.oneCell')
section
variable {E : Ent} {φ : Nat → Option Loc} {M : Nat → Prop} {L : Nat → List Nat} {st st' : St} {a : Act} {w : World} {P : Program} {o : Oper}
theorem Cs.consts {l : List Value} (h : oneL l = true) : Cs φ M w (l.map cv1) l [] := by
  refine Cs.of_all (by simp) (fun u hu => List.all_eq_true.1 h u hu) fun j x u a b => ?_
  simp only [List.getElem?_map, b, Option.map_some, Option.some.injEq] at a
  exact a ▸ V.cv1 φ M w u
abbrev Makes (E : Ent) (a : Act) (w : World) (P : Program) (o : Oper) (x : AV) (st' : St) : Prop :=
  ∃ v w' φ' M' L', ((execOp a.eval o).run P w = .ok (.value v) w' ∨ ((execOp a.eval o).run P w = .ok .skip w' ∧ v = undef)) ∧ Inv E φ' M' L' st' a.tmps w' ∧ V φ' M' w' x v []
theorem w_new (I : Inv E φ M L st a.tmps w) {d : Nat} (hd : st.h d = none) {cs : List AV} {us : List Value} (hc : Cs φ M w cs us []) (t : TypeId) (hr : (execOp a.eval o).run P w = .ok (.value (.pointer (some ⟨w.heap.size, 0, none⟩))) (w.alloc (.cells us.toArray t))) :
    Makes E a w P o (.ref d 0) (st.put d (some cs)) := by
  have I' := I.new hd hc (C := us.toArray) (fun j u h => by simpa using h) t
  refine ⟨_, _, _, _, _, .inl hr, I', ?_⟩
  exact .ref d 0 _ (upd_same _ _ _)
theorem w_alloc {t : TypeId} {z : Value} (ho : o.op = .alloc t) (hz : zeroB P t = some z) (h1 : oneL z.cells.toList = true) (I : Inv E φ M L st a.tmps w) {d : Nat} (hd : st.h d = none) :
    Makes E a w P o (.ref d 0) (st.put d (some (z.cells.toList.map cv1))) :=
  w_new I hd (Cs.consts h1) t (by simp [execOp, ho, Instr.alloc, run_zeroB hz, newVar, newRow])
theorem w_box {t : TypeId} {x : Operand} {x' : AX} (ho : o.op = .box t x) (hx : cx x = some x') (I : Inv E φ M L st a.tmps w) {d : Nat} (hd : st.h d = none) {cs : List AV} (hc : cellsOf (x'.ev st.ρ) = some cs) :
    Makes E a w P o (.ref d 0) (st.put d (some cs)) := by
  obtain ⟨us, h1, h2⟩ := cells_ok (I.ev hx) hc
  exact w_new I hd h2 t (by simp [execOp, ho, Instr.box, newVar, newRow, h1])
theorem w_store {t : TypeId} {p x : Operand} {p' x' : AX} {n : Nat} (ho : o.op = .store t p x) (hp : cx p = some p') (hx : cx x = some x') (hn : szB P t = some n) (I : Inv E φ M L st a.tmps w) {b off : Nat} {xs cs : List AV}
    (hb : p'.ev st.ρ = .ref b off) (hxs : cellsOf (x'.ev st.ρ) = some xs) (hcs : st.h b = some (some cs)) (hle : xs.length = n ∧ off + xs.length ≤ cs.length) : Makes E a w P o .un (st.put b (some (over cs off xs))) := by
  obtain ⟨us, h1, h2⟩ := cells_ok (I.ev hx) hxs
  have h3 := I.ev hp
  rw [hb] at h3
  obtain ⟨l, hl, h3⟩ := vref h3
  obtain ⟨w', L', h4, h5⟩ := Inv.stores (P := P) hl xs us w L st cs off 0 I hcs h2.len (by omega) h2.one h2.all
  refine ⟨undef, w', φ, M, L', .inr ⟨?_, rfl⟩, by simpa using h5, V.un _⟩
  have h6 := h2.len
  simp [execOp, ho, Instr.storeAt, h3, Instr.sureAddr, storeVar, run_sizeB hn, h1, h6, hle.1, h4]
def infoB (P : Program) (t : TypeId) (sz bytes : Nat) (z : Value) : Prop := ∃ i, P.info? t = some i ∧ i.size = sz ∧ i.bytes = bytes ∧ i.zero = some z
structure Src (P : Program) (w : World) (sz : Nat) (x : Value) (n : Nat) (news : List Value) : Prop where
  len : (Builtin.lenOf x).run P w = .ok n w
  cells : (Builtin.firstCells sz n x).run P w = .ok news.toArray w
  drew : (Builtin.firstCells sz n x).run P w.drew = .ok news.toArray w.drew
def SeqT (P : Program) (t : TypeId) : Prop := P.underlying t = some .string ∨ ∃ e, P.underlying t = some (.slice e)
def stRow (base : Option Addr) (k : Nat) (news : List Value) : Sem Unit := match base with | some a => storeCells (a.add k) news | none => pure ()
theorem run_app_room {t tx ty e : TypeId} {sz bytes n sLen sCap : Nat} {z x : Value} {base : Option Addr} {news : List Value} (ht : P.underlying t = some (.slice e)) (htx : SeqT P tx) (hi : infoB P e sz bytes z)
    (hs : Src P w sz x n news) (hroom : sLen + n ≤ sCap) :
    (Builtin.append_ #[t, tx] ty #[.slice base sLen sCap, x]).run P w =
      ((stRow base (sLen * sz) news).run P w).andThen fun _ w' => .ok (.slice base (sLen + n) sCap) w' := by
  obtain ⟨i, hi, rfl, rfl, hz⟩ := hi
  rcases htx with hu | ⟨e', hu⟩ <;> cases base <;> simp [Builtin.append_, run_underB ht, run_underB hu, sizeOf, typeInfo, hi, hs.len, hroom, hs.cells, stRow]
theorem run_app_grow {t tx ty e : TypeId} {sz bytes n sLen sCap : Nat} {z x : Value} {base : Option Addr} {olds news : List Value} (ht : P.underlying t = some (.slice e)) (htx : SeqT P tx) (hi : infoB P e sz bytes z)
    (hs : Src P w sz x n news) (hg : sCap < sLen + n) (hb : (sLen + n) * bytes ≤ 140737488355328) (h63 : sLen + n ≤ 9223372036854775807)
    (ho : (Builtin.firstCells sz sLen (.slice base sLen sCap)).run P w.drew = .ok olds.toArray w.drew) :
    (Builtin.append_ #[t, tx] ty #[.slice base sLen sCap, x]).run P w =
      .ok (.slice (some ⟨w.heap.size, 0, none⟩) (sLen + n) (grownCap w (sLen + n) sCap e)) (w.drew.alloc (.cells (olds.toArray ++ news.toArray ++ Builtin.zeroCells z.cells (grownCap w (sLen + n) sCap e - (sLen + n))) e)) := by
  obtain ⟨i, hi, rfl, rfl, hz⟩ := hi
  have hn : ¬ (sLen + n ≤ sCap) := by omega
  have h63' : ¬ (9223372036854775807 < ((sLen : Int) + (n : Int))) := by omega
  have hfit := growslice_fits hg hb
  have h48' : ¬ (281474976710656 < Builtin.nextslicecap (sLen + n) sCap * i.bytes) := by omega
  rcases htx with hu | ⟨e', hu⟩ <;>
      (simp [Builtin.append_, run_underB ht, run_underB hu, sizeOf, typeInfo, zeroValue, hi, hz, hs.len, hn, h63', h48', Question.forced, ho, hs.drew, newRow, grownCap]; congr 2; apply Array.ext'; simp [List.append_assoc])
theorem src_string (P : Program) (w : World) (sz : Nat) (s : ByteArray) : Src P w sz (.string s) s.size (s.data.toList.map fun b => .int .u8 b.toNat) := by
  have hx : (Array.map (fun b : UInt8 => Value.int IntKind.u8 (b.toNat : Int)) s.data).extract 0 s.size = Array.map (fun b : UInt8 => Value.int IntKind.u8 (b.toNat : Int)) s.data := by
    have hs : s.size = (Array.map (fun b : UInt8 => Value.int IntKind.u8 (b.toNat : Int)) s.data).size := by rw [Array.size_map]; rfl
    rw [hs, Array.extract_size]
  have h2 : (s.data.toList.map fun b => Value.int .u8 (b.toNat : Int)).toArray = Array.map (fun b : UInt8 => Value.int IntKind.u8 (b.toNat : Int)) s.data := by
    apply Array.ext'; simp
  refine ⟨by simp [Builtin.lenOf], ?_, ?_⟩ <;> rw [h2] <;> simp [Builtin.firstCells]
theorem src_slice {sz n c : Nat} {A : Option Addr} {news : List Value} (hlen : news.length = n * sz) (h : ∀ (j : Nat) (u : Value), news[j]? = some u → ∃ g oo, A = some ⟨g, oo, none⟩ ∧ w.cell? ⟨g, oo + j, none⟩ = some u) (hA : A = none → n * sz = 0) :
    Src P w sz (.slice A n c) n news := by
  have key : ∀ w' : World, w'.heap = w.heap → (Builtin.firstCells sz n (.slice A n c)).run P w' = .ok news.toArray w' := by
    intro w' hw'
    cases A with
    | none =>
      obtain rfl : news = [] := List.length_eq_zero_iff.1 (by rw [hlen]; exact hA rfl)
      simp [Builtin.firstCells]
    | some ad =>
      simp only [Builtin.firstCells]
      have := run_loadCells_list (P := P) w' ad news (fun j v hj => by
        obtain ⟨g, oo, e, hc⟩ := h j v hj
        cases e
        rw [add_none]
        rw [← hc]
        exact cell_same (by rw [hw']))
      rw [hlen] at this
      exact this
  exact ⟨by simp [Builtin.lenOf], key w rfl, key w.drew rfl⟩
def Free (E : Ent) (M : Nat → Prop) (L : Nat → List Nat) (st : St) (g : Nat) : Prop :=
  (∀ b cs, st.h b = some (some cs) → g ∉ L b) ∧ ¬ M g ∧ (E.O g ∨ E.w.heap.size ≤ g)
theorem put_live {st : St} {b b' : Nat} {x : Option (List AV)} {cs : List AV} (h : (st.put b x).h b' = some (some cs)) (hne : b' ≠ b) : st.h b' = some (some cs) := by
  simpa [St.put, upd_ne _ _ hne] using h
theorem Inv.kill (I : Inv E φ M L st a.tmps w) {b : Nat} {cs : List AV} (hb : st.h b = some (some cs)) :
    Inv E φ M L (st.put b none) a.tmps w ∧ ∀ g ∈ L b, Free E M L (st.put b none) g := by
  have hst : ∀ b' cs', (st.put b none).h b' = some (some cs') → b' ≠ b ∧ st.h b' = some (some cs') := fun b' cs' h => by
    by_cases hne : b' = b
    · subst hne; simp [St.put, upd_same] at h
    · exact ⟨hne, put_live h hne⟩
  refine ⟨⟨I.size, I.env, fun b' cs' h => I.root b' cs' (hst b' cs' h).2, ?_, fun b' cs' h => I.nodup b' cs' (hst b' cs' h).2, fun b1 b2 c1 c2 h12 h1 h2 => I.disj b1 b2 c1 c2 h12 (hst b1 c1 h1).2 (hst b2 c2 h2).2,
    fun b' cs' h => I.notM b' cs' (hst b' cs' h).2, fun b' cs' h => I.low b' cs' (hst b' cs' h).2, I.bound, I.m0, I.m1, fun b' cs' h => I.own b' cs' (hst b' cs' h).2, I.os, I.tape, I.output, I.grown, I.frame, I.keep⟩, ?_⟩
  · intro b' h
    by_cases hne : b' = b
    · subst hne; simp [St.put, upd_same] at h
    · exact I.fresh b' (by simpa [St.put, upd_ne _ _ hne] using h)
  · intro g hg
    exact ⟨fun b' cs' h hg' => I.disj b b' cs cs' (fun e => (hst b' cs' h).1 e.symm) hb (hst b' cs' h).2 g hg hg', I.notM b cs hb g hg, I.own b cs hb g hg⟩
theorem Inv.add (I : Inv E φ M L st a.tmps w) {d : Nat} (hd : st.h d = none) {w' : World} (hsz : w.heap.size ≤ w'.heap.size) (hos : w'.os = w.os) (htape : w'.tape = w.tape) (hout : w'.output = w.output) (hkeep : Keeps w w')
    (hk : ∀ g, g < w.heap.size → ¬ Free E M L st g → w'.heap[g]? = w.heap[g]?) {cs : List AV} {L' : List Nat} (loc : Option Loc) (hL : ∀ g ∈ L', (Free E M L st g ∨ w.heap.size ≤ g) ∧ g < w'.heap.size) (hnd : L'.Nodup)
    (hr : Root (upd φ d loc) M w' d cs L') : Inv E (upd φ d loc) M (upd L d L') (st.put d (some cs)) a.tmps w' := by
  have hφ : ∀ b' l, φ b' = some l → upd φ d loc b' = some l := fun b' l h => by
    have : b' ≠ d := by rintro rfl; rw [I.fresh _ hd] at h; cases h
    rw [upd_ne _ _ this]; exact h
  have hM : ∀ g, M g → w'.heap[g]? = w.heap[g]? := fun g h => hk g (I.bound g h) fun hf => hf.2.1 h
  have hliv : ∀ b' cs', st.h b' = some (some cs') → ∀ g ∈ L b', w'.heap[g]? = w.heap[g]? := fun b' cs' h g hg => hk g (I.low b' cs' h g hg) fun hf => hf.1 b' cs' h hg
  refine ⟨I.size, fun t => (I.env t).mono hφ (fun _ h => h) (fun g h => hM g (h.resolve_right (by simp))), ?_, ?_, ?_, ?_, ?_, ?_, ?_, I.m0, I.m1, ?_, hos.trans I.os, htape.trans I.tape, hout.trans I.output, by have := I.grown; omega, ?_, Keeps.trans (w1 := w) I.keep hkeep⟩
  · intro b' cs' h
    by_cases hne : b' = d
    · subst hne
      simp only [St.put, upd_same, Option.some.injEq] at h
      subst h
      rw [upd_same]; exact hr
    · rw [upd_ne _ _ hne]
      have hb' := put_live h hne
      exact (I.root b' cs' hb').mono hφ (fun h => by rw [upd_ne _ _ hne]; exact h) (fun _ h => h) (fun g hg => hg.elim (hM g) (hliv b' cs' hb' g))
  · intro b' h
    by_cases hne : b' = d
    · subst hne; simp [St.put, upd_same] at h
    · rw [upd_ne _ _ hne]; exact I.fresh b' (by simpa [St.put, upd_ne _ _ hne] using h)
  · intro b' cs' h
    by_cases hne : b' = d
    · subst hne; rw [upd_same]; exact hnd
    · rw [upd_ne _ _ hne]; exact I.nodup b' cs' (put_live h hne)
  · intro b1 b2 c1 c2 h12 h1 h2 g hg
    by_cases hn1 : b1 = d
    · subst hn1
      rw [upd_same] at hg
      rw [upd_ne _ _ (fun e => h12 e.symm)]
      intro hg2
      have h2' := put_live h2 (fun e => h12 e.symm)
      rcases (hL g hg).1 with hf | hf
      · exact hf.1 b2 c2 h2' hg2
      · have := I.low b2 c2 h2' g hg2; omega
    · rw [upd_ne _ _ hn1] at hg
      have h1' := put_live h1 hn1
      by_cases hn2 : b2 = d
      · subst hn2; rw [upd_same]; intro hg2
        rcases (hL g hg2).1 with hf | hf
        · exact hf.1 b1 c1 h1' hg
        · have := I.low b1 c1 h1' g hg; omega
      · rw [upd_ne _ _ hn2]; exact I.disj b1 b2 c1 c2 h12 h1' (put_live h2 hn2) g hg
  · intro b' cs' h g hg hm
    by_cases hne : b' = d
    · subst hne; rw [upd_same] at hg
      rcases (hL g hg).1 with hf | hf
      · exact hf.2.1 hm
      · have := I.bound g hm; omega
    · rw [upd_ne _ _ hne] at hg; exact I.notM b' cs' (put_live h hne) g hg hm
  · intro b' cs' h g hg
    by_cases hne : b' = d
    · subst hne; rw [upd_same] at hg; exact (hL g hg).2
    · rw [upd_ne _ _ hne] at hg; have := I.low b' cs' (put_live h hne) g hg; omega
  · intro g h; have := I.bound g h; omega
  · intro b' cs' h g hg
    by_cases hne : b' = d
    · subst hne; rw [upd_same] at hg
      rcases (hL g hg).1 with hf | hf
      · exact hf.2.2
      · exact .inr (by have := I.grown; omega)
    · rw [upd_ne _ _ hne] at hg; exact I.own b' cs' (put_live h hne) g hg
  · intro g hg hO
    rw [hk g (by have := I.grown; omega) fun hf => by rcases hf.2.2 with h | h; exact hO h; omega]
    exact I.frame g hg hO
theorem dst_ok {x : AV} {v : Value} {b off len sz : Nat} (h : V φ M w x v []) (hd : dstA x = some (b, off, len, sz)) : (len = 0 ∧ ∃ A, v = .slice A 0 0) ∨ ∃ l c, φ b = some l ∧ v = .slice (some ⟨l.g, l.o + off, none⟩) len c ∧ l.o + off + len * sz ≤ l.n := by
  unfold dstA at hd
  split at hd <;> cases hd
  · obtain ⟨_, ⟨rfl, A, rfl⟩ | ⟨l, c, hl, rfl, hlc, hln, _⟩⟩ := vsl h
    · exact .inl ⟨rfl, A, rfl⟩
    · exact .inr ⟨l, c, hl, rfl, by have := Nat.mul_le_mul_right sz hlc; omega⟩
  · obtain ⟨_, ⟨rfl, rfl, A, rfl⟩ | ⟨l, hl, rfl, hlc, hln⟩⟩ := vpf h
    · exact .inl ⟨rfl, A, rfl⟩
    · exact .inr ⟨l, _, hl, rfl, by have := Nat.mul_le_mul_right sz hlc; omega⟩
theorem src_blk (I : Inv E φ M L st a.tmps w) {b off k : Nat} {cs : List AV} (hb : st.h b = some (some cs)) (hle : off + k ≤ cs.length ∧ plain.plainL ((cs.drop off).take k) = true) {l : Loc} (hl : φ b = some l) :
    ∃ news : List Value, (∀ (j : Nat) (u : Value), news[j]? = some u → w.cell? ⟨l.g, l.o + off + j, none⟩ = some u) ∧ Cs φ M w ((cs.drop off).take k) news [] ∧ news.length = k := by
  rcases I.root b cs hb with ⟨rfl, h2, _⟩ | ⟨l', C, us, F, h2', hB, hn, hc, hcells, _⟩
  · rw [hl] at h2; cases h2
  rw [hl] at h2'; cases h2'
  refine ⟨(us.drop off).take k, fun j u hj => ?_, ?_, by simp [hc.len]; omega⟩
  · rw [List.getElem?_take] at hj
    split at hj <;> (try cases hj)
    rw [List.getElem?_drop] at hj
    rw [hB.cell, Nat.add_assoc]
    exact hcells _ u hj
  · refine Cs.of_all (by simp [hc.len]) (fun u hu => hc.one u (List.mem_of_mem_drop (List.mem_of_mem_take hu))) fun j y u hy hj => ?_
    have hp := plainL_mem hle.2 y (List.mem_of_getElem? hy)
    rw [List.getElem?_take] at hy hj
    split at hy <;> (try cases hy)
    rename_i hlt
    rw [if_pos hlt] at hj
    rw [List.getElem?_drop] at hy hj
    obtain ⟨Fs, e1, e2, _, e4, e5⟩ := hc
    have hk' : off + j < Fs.length := by rw [e2]; exact (List.getElem?_eq_some_iff.1 hy).1
    have := e5 _ y u _ hy hj (List.getElem?_eq_getElem hk')
    have e := this.nofoot hp
    rw [e] at this
    exact this
theorem src_ok2 (I : Inv E φ M L st a.tmps w) {sz n : Nat} {x : AV} {v : Value} (h : V φ M w x v []) {xs : List AV} (hs : srcCells st.h sz x = some (xs, n)) :
    ∃ A c news, v = .slice A n c ∧ (∀ (j : Nat) (u : Value), news[j]? = some u → ∃ g oo, A = some ⟨g, oo, none⟩ ∧ w.cell? ⟨g, oo + j, none⟩ = some u) ∧ (A = none → n * sz = 0) ∧ Cs φ M w xs news [] ∧ xs.length = n * sz := by
  unfold srcCells at hs
  split at hs
  · cases hs
    obtain ⟨A, rfl⟩ := vem h
    exact ⟨A, 0, [], rfl, by simp, fun _ => by simp, Cs.nil _ _ _, by simp⟩
  · split at hs <;> cases hs
    rename_i hl
    obtain ⟨A, c, us, rfl, h1, hA, hc, hm⟩ := vro h
    refine ⟨A, c, us, rfl, fun j u hj => ?_, fun hA' => ?_, hc.cs φ, hl⟩
    · obtain ⟨g, oo, e, _, e2⟩ := hm j u hj
      exact ⟨g, oo, e, e2⟩
    · rcases Nat.eq_zero_or_pos n with rfl | hp
      · simp
      · obtain ⟨g, oo, e⟩ := hA hp; rw [hA'] at e; cases e
  · split at hs <;> (try cases hs)
    rename_i b off len sz' lim hsz
    subst hsz
    split at hs <;> (try cases hs)
    rename_i cs hb
    split at hs <;> cases hs
    rename_i hle
    have hlen : ((cs.drop off).take (n * sz)).length = n * sz := by simp; omega
    obtain ⟨_, ⟨rfl, A, rfl⟩ | ⟨l, c, hl, rfl, h1, h2, h3⟩⟩ := vsl h
    · simp only [Nat.zero_mul, List.take_zero]
      exact ⟨A, 0, [], rfl, by simp, fun _ => trivial, Cs.nil _ _ _, rfl⟩
    · obtain ⟨news, e1, e2, e3⟩ := src_blk I hb hle hl
      exact ⟨_, c, news, rfl, fun j u hj => ⟨_, _, rfl, e1 j u hj⟩, (fun e => by cases e), e2, hlen⟩
  · split at hs <;> (try cases hs)
    rename_i b off len cap sz' hsz
    subst hsz
    split at hs <;> (try cases hs)
    rename_i cs hb
    split at hs <;> cases hs
    rename_i hle
    have hlen : ((cs.drop off).take (n * sz)).length = n * sz := by simp; omega
    obtain ⟨_, ⟨rfl, rfl, A, rfl⟩ | ⟨l, hl, rfl, h1, h2⟩⟩ := vpf h
    · simp only [Nat.zero_mul, List.take_zero]
      exact ⟨A, 0, [], rfl, by simp, fun _ => trivial, Cs.nil _ _ _, rfl⟩
    · obtain ⟨news, e1, e2, e3⟩ := src_blk I hb hle hl
      exact ⟨_, cap, news, rfl, fun j u hj => ⟨_, _, rfl, e1 j u hj⟩, (fun e => by cases e), e2, hlen⟩
  · cases hs
theorem cut_ok {x : AV} {v : Value} {n k sz : Nat} (h : V φ M w x v []) (hn : lenA x = some n) (hk : k ≤ n) : ∃ A c, v = .slice A n c ∧ V φ M w (cutA sz k x) (.slice A k c) [] := by
  unfold lenA at hn
  split at hn <;> cases hn
  · obtain ⟨_, ⟨rfl, A, rfl⟩ | ⟨l, c, hl, rfl, h1, h2, h3⟩⟩ := vsl h
    · obtain rfl : k = 0 := by omega
      exact ⟨A, 0, rfl, .slz _ _ _ _ _⟩
    · refine ⟨_, c, rfl, ?_⟩
      simp only [cutA, Nat.min_eq_left hk]
      exact .sl _ _ _ _ _ l c hl (by omega) h2 (fun e => by cases e)
  · obtain ⟨_, ⟨rfl, rfl, A, rfl⟩ | ⟨l, hl, rfl, h1, h2⟩⟩ := vpf h
    · obtain rfl : k = 0 := by omega
      exact ⟨A, 0, rfl, .pfz _ _ _ _⟩
    · refine ⟨_, _, rfl, ?_⟩
      simp only [cutA, Nat.min_eq_left hk]
      exact .pf _ _ _ _ _ l hl (by omega) h2
  · obtain ⟨A, c, us, rfl, h1, hA, hc, hm⟩ := vro h
    refine ⟨A, c, rfl, ?_⟩
    simp only [cutA, Nat.min_eq_left hk]
    have hc' := hc.take (k * sz)
    refine .imm _ _ (.ro _ _ _ _ (us.take (k * sz)) (by omega) (fun e => hA (by omega)) hc'.1 (fun j u hj => ?_) hc'.2.1 hc'.2.2)
    rw [List.getElem?_take] at hj
    split at hj <;> (try cases hj)
    exact hm j u hj
  · obtain ⟨A, rfl⟩ := vem h
    obtain rfl : k = 0 := by omega
    exact ⟨A, 0, rfl, V.em _⟩
theorem src_ok (I : Inv E φ M L st a.tmps w) {sz n : Nat} {x : AV} {v : Value} (h : V φ M w x v []) {xs : List AV} (hs : srcCells st.h sz x = some (xs, n)) :
    ∃ news, Src P w sz v n news ∧ Cs φ M w xs news [] ∧ xs.length = n * sz := by
  obtain ⟨A, c, news, rfl, h1, h2, h3, h4⟩ := src_ok2 I h hs
  exact ⟨news, src_slice (by rw [h3.len, h4]) h1 h2, h3, h4⟩
theorem strCells_ok (φ : Nat → Option Loc) (M : Nat → Prop) (w : World) (s : ByteArray) : Cs φ M w (strCells s) (s.data.toList.map fun b => .int .u8 b.toNat) [] := by
  refine Cs.of_all (by simp [strCells]) (fun u hu => ?_) fun j x u hx hu => ?_
  · obtain ⟨b, _, rfl⟩ := List.mem_map.1 hu; rfl
  · simp only [strCells, List.getElem?_map, Option.map_eq_some_iff] at hx hu
    obtain ⟨b, hb, rfl⟩ := hx
    obtain ⟨b', hb', rfl⟩ := hu
    rw [hb] at hb'; cases hb'
    exact V.sc _ rfl
theorem root_nil {loc : Option Loc} (h : loc = none) (d : Nat) : Root (upd φ d loc) M w d [] [] := .inl ⟨rfl, by rw [upd_same]; exact h, rfl⟩
theorem Inv.newRow (I : Inv E φ M L st a.tmps w) {d : Nat} (hd : st.h d = none) {cs : List AV} {us : List Value} {F : List Nat} {C : Array Value} (hc : Cs φ M w cs us F) (hC : ∀ (j : Nat) (u : Value), us[j]? = some u → C[j]? = some u) (t : TypeId)
    (hF : ∀ g ∈ F, Free E M L st g ∧ g < w.heap.size) (hnd : F.Nodup) :
    Inv E (upd φ d (some ⟨w.heap.size, 0, C.size⟩)) M (upd L d (w.heap.size :: F)) (st.put d (some cs)) a.tmps (w.drew.alloc (.cells C t)) := by
  have hφ : ∀ b' l, φ b' = some l → upd φ d (some ⟨w.heap.size, 0, C.size⟩) b' = some l := fun b' l h => by
    have : b' ≠ d := by rintro rfl; rw [I.fresh _ hd] at h; cases h
    rw [upd_ne _ _ this]; exact h
  refine I.add hd (w' := w.drew.alloc (.cells C t)) (by simp) rfl rfl rfl (Keeps.of fun g hg => heap_alloc_lt w.drew _ hg) (fun g hg _ => heap_alloc_lt w.drew _ hg) _ ?_ ?_ ?_
  · intro g hg
    rcases List.mem_cons.1 hg with rfl | hg
    · exact ⟨.inr (Nat.le_refl _), by simp⟩
    · exact ⟨.inl (hF g hg).1, by have := (hF g hg).2; simp; omega⟩
  · exact List.nodup_cons.2 ⟨fun h => by have := (hF _ h).2; omega, hnd⟩
  · exact .inr ⟨_, C, us, F, upd_same _ _ _, Blk.new w.drew C t, rfl, hc.mono hφ (fun _ h => h) (fun g hg => heap_alloc_lt w.drew _ (hg.elim (I.bound g) fun h => (hF g h).2)), fun j u hj => by rw [Nat.zero_add]; exact hC j u hj, rfl⟩
theorem app_getElem {us : List Value} {r : Array Value} (j : Nat) (u : Value) (h : us[j]? = some u) : (us.toArray ++ r)[j]? = some u := by
  rw [Array.getElem?_append_left (by simpa using (List.getElem?_eq_some_iff.1 h).1)]
  simpa using h
theorem app_em {t tx ty e : TypeId} {sz bytes n : Nat} {z xv : Value} {A : Option Addr} {news : List Value} {xs : List AV} (ht : P.underlying t = some (.slice e)) (htx : SeqT P tx) (hi : infoB P e sz bytes z) (hzs : z.cells.size = sz)
    (hs : Src P w sz xv n news) (hc : Cs φ M w xs news []) (hxs : xs.length = n * sz) (hb : n * bytes ≤ 140737488355328) (hn63 : n ≤ 9223372036854775807) (I : Inv E φ M L st a.tmps w) {d : Nat} (hd : st.h d = none) :
    ∃ v w' φ' L', (Builtin.append_ #[t, tx] ty #[.slice A 0 0, xv]).run P w = .ok v w' ∧ Inv E φ' M L' (st.put d (some xs)) a.tmps w' ∧ V φ' M w' (.sl d 0 n sz false) v [] := by
  rcases Nat.eq_zero_or_pos n with rfl | hp
  · obtain rfl : xs = [] := List.length_eq_zero_iff.1 (by simpa using hxs)
    obtain rfl : news = [] := List.length_eq_zero_iff.1 hc.len
    have hr := run_app_room (P := P) (w := w) (ty := ty) (sLen := 0) (sCap := 0) (base := A) ht htx hi hs (Nat.le_refl _)
    have : (stRow A (0 * sz) []).run P w = .ok () w := by cases A <;> rfl
    rw [this, Result.andThen_ok] at hr
    have I' := I.add hd (w' := w) (cs := []) (Nat.le_refl _) rfl rfl rfl (Keeps.refl w) (fun _ _ _ => rfl) none (L' := []) (by simp) (by simp) (root_nil rfl d)
    exact ⟨_, _, _, _, hr, I', .slz _ _ _ _ _⟩
  · have hr := run_app_grow (P := P) (w := w) (ty := ty) (sLen := 0) (sCap := 0) (base := A) (olds := []) ht htx hi hs (by omega) (by rw [Nat.zero_add]; exact hb) (by omega) (by cases A <;> simp [Builtin.firstCells, loadCells, loadCellsFrom])
    have hge := grownCap_ge w (0 + n) 0 e
    generalize grownCap w (0 + n) 0 e = c at hr hge
    rw [Nat.zero_add] at hr hge
    have I' := I.newRow hd hc (C := [].toArray ++ news.toArray ++ Builtin.zeroCells z.cells (c - n)) (fun j u h => by
      rw [show ([].toArray ++ news.toArray : Array Value) = news.toArray by simp]; exact app_getElem j u h) e (by simp) (by simp)
    have hCs : ([].toArray ++ news.toArray ++ Builtin.zeroCells z.cells (c - n)).size = c * sz := by
      simp only [Array.size_append, List.size_toArray, size_zeroCells, hzs, hc.len, hxs, List.length_nil, Nat.zero_add, ← Nat.add_mul]
      congr 1; omega
    refine ⟨_, _, _, _, hr, I', ?_⟩
    refine V.sl d 0 n sz false _ _ (upd_same _ _ _) hge (by simp only [hCs]; omega) (fun h => by cases h)
theorem Blk.setCells {g : Nat} : ∀ (vs : List Value) (o : Nat) (w : World) (C : Array Value), Blk w g C → o + vs.length ≤ C.size →
    ∃ C', Blk (w.setCells g o vs) g C' ∧ C'.size = C.size ∧ (∀ (j : Nat) (u : Value), vs[j]? = some u → C'[o + j]? = some u) ∧ (∀ i, i < o → C'[i]? = C[i]?)
  | [], o, w, C, h, _ => ⟨C, h, rfl, by simp, fun _ _ => rfl⟩
  | v :: vs, o, w, C, h, hle => by
    simp only [List.length_cons] at hle
    obtain ⟨C', h1, h2, h3, h4⟩ := Blk.setCells vs (o + 1) _ _ (h.setCell o v) (by simp; omega)
    refine ⟨C', h1, by simpa using h2, fun j u hj => ?_, fun i hi => ?_⟩
    · cases j with
      | zero =>
        simp at hj; subst hj
        rw [Nat.add_zero, h4 o (by omega), Array.getElem?_setIfInBounds, if_pos rfl, if_pos (by omega)]
      | succ j => rw [show o + (j + 1) = o + 1 + j by omega]; exact h3 j u (by simpa using hj)
    · rw [h4 i (by omega), Array.getElem?_setIfInBounds, if_neg (by omega)]
theorem Keeps.setCells (g : Nat) : ∀ (vs : List Value) (o : Nat) (w : World), Keeps w (w.setCells g o vs)
  | [], _, w => Keeps.refl w
  | v :: vs, o, w => (Keeps.setCell w g o v).trans (Keeps.setCells g vs (o + 1) _)
theorem setCells_heap (g : Nat) : ∀ (vs : List Value) (o : Nat) (w : World) (k : Nat), k ≠ g → (w.setCells g o vs).heap[k]? = w.heap[k]?
  | [], _, _, _, _ => rfl
  | v :: vs, o, w, k, h => by rw [World.setCells, setCells_heap g vs _ _ k h, heap_setCell_ne _ _ _ h]
theorem setCells_rest (g : Nat) : ∀ (vs : List Value) (o : Nat) (w : World), (w.setCells g o vs).heap.size = w.heap.size ∧ (w.setCells g o vs).os = w.os ∧ (w.setCells g o vs).tape = w.tape ∧ (w.setCells g o vs).output = w.output
  | [], _, _ => ⟨rfl, rfl, rfl, rfl⟩
  | v :: vs, o, w => by
    obtain ⟨h1, h2, h3, h4⟩ := setCells_rest g vs (o + 1) (w.setCell ⟨g, o, none⟩ v)
    rw [World.setCells]
    exact ⟨by rw [h1]; simp, h2, h3, h4⟩
theorem app_sl {t tx ty e : TypeId} {sz bytes n len b : Nat} {z sv xv : Value} {news : List Value} {xs cs : List AV} (ht : P.underlying t = some (.slice e)) (htx : SeqT P tx) (hi : infoB P e sz bytes z) (hzs : z.cells.size = sz)
    (hs : Src P w sz xv n news) (hc : Cs φ M w xs news []) (hxs : xs.length = n * sz) (hb : (len + n) * bytes ≤ 140737488355328) (hn63 : len + n ≤ 9223372036854775807) (I : Inv E φ M L st a.tmps w) {d : Nat} (hd : st.h d = none)
    (hv : V φ M w (.sl b 0 len sz false) sv []) (hcs : st.h b = some (some cs)) (hlen : len * sz = cs.length) :
    ∃ v w' φ' L', (Builtin.append_ #[t, tx] ty #[sv, xv]).run P w = .ok v w' ∧ Inv E φ' M L' ((st.put b none).put d (some (cs ++ xs))) a.tmps w' ∧ V φ' M w' (.sl d 0 (len + n) sz false) v [] := by
  have hbd : d ≠ b := by rintro rfl; rw [hd] at hcs; cases hcs
  obtain ⟨I1, hfree⟩ := I.kill hcs
  have hd1 : (st.put b none).h d = none := by simpa [St.put, upd_ne _ _ hbd] using hd
  obtain ⟨_, ⟨rfl, A, rfl⟩ | ⟨l, c, hl, rfl, hlc, hln, hlm⟩⟩ := vsl hv
  · obtain rfl : cs = [] := List.length_eq_zero_iff.1 (by simpa using hlen.symm)
    rw [Nat.zero_add] at hb hn63 ⊢
    exact app_em ht htx hi hzs hs hc hxs hb hn63 I1 hd1
  simp only [Nat.add_zero] at hln
  rcases I.root b cs hcs with ⟨_, h2, _⟩ | ⟨l', C, us, F, h2, hB, hn, hco, hcells, hL⟩
  · rw [h2] at hl; cases hl
  rw [hl] at h2; cases h2
  have hFL : ∀ g ∈ F, g ∈ L b := fun g hg => by rw [hL]; exact List.mem_cons_of_mem _ hg
  have hnd := I.nodup b cs hcs
  rw [hL] at hnd
  have hgF : l.g ∉ F := (List.nodup_cons.1 hnd).1
  have hgM : ¬ M l.g := I.notM b cs hcs l.g (by rw [hL]; simp)
  have hus : us.length = len * sz := by rw [hco.len, hlen]
  have hφ : ∀ loc b' l, φ b' = some l → upd φ d loc b' = some l := fun loc b' l h => by
    have : b' ≠ d := by rintro rfl; rw [I.fresh _ hd] at h; cases h
    rw [upd_ne _ _ this]; exact h
  by_cases hroom : len + n ≤ c
  · have hsum : len * sz + n * sz ≤ c * sz := by rw [← Nat.add_mul]; exact Nat.mul_le_mul_right _ hroom
    have hnl : news.length = n * sz := by rw [hc.len, hxs]
    have hr := run_app_room (P := P) (w := w) (ty := ty) (base := some ⟨l.g, l.o + 0, none⟩) ht htx hi hs hroom
    have hst : (stRow (some ⟨l.g, l.o + 0, none⟩) (len * sz) news).run P w = .ok () (w.setCells l.g (l.o + len * sz) news) := by
      simp only [stRow, add_none, Nat.add_zero]
      have := run_storeCells_cells (P := P) l.g (l.o + len * sz) news 0 w (fun j hj => by rw [hB.cell, Array.getElem?_eq_getElem (by omega)]; rfl) (fun j hj => hB.frozen _ (by omega)) hc.one
      simpa using this
    rw [hst, Result.andThen_ok] at hr
    obtain ⟨C', hB', hCs', hnew, hold⟩ := Blk.setCells news (l.o + len * sz) w C hB (by omega)
    obtain ⟨z1, z2, z3, z4⟩ := setCells_rest l.g news (l.o + len * sz) w
    have hw : ∀ g, g ≠ l.g → (w.setCells l.g (l.o + len * sz) news).heap[g]? = w.heap[g]? := fun g hg => setCells_heap _ _ _ _ _ hg
    have hwM : ∀ g, M g → (w.setCells l.g (l.o + len * sz) news).heap[g]? = w.heap[g]? := fun g hg => hw g (fun e => hgM (e ▸ hg))
    have I' := I1.add hd1 (w' := w.setCells l.g (l.o + len * sz) news) (by omega) z2 z3 z4 (Keeps.setCells _ _ _ w) (fun g hg hnf => hw g (fun e => hnf (e ▸ hfree l.g (by rw [hL]; simp)))) (cs := cs ++ xs) (L' := l.g :: (F ++ [])) (some ⟨l.g, l.o, l.n⟩)
      (fun g hg => by
        have hgL : g ∈ L b := by rw [hL]; simpa using hg
        exact ⟨.inl (hfree g hgL), by have := I.low b cs hcs g hgL; omega⟩) (by simpa using hnd)
      (.inr ⟨_, C', us ++ news, F ++ [], upd_same _ _ _, hB', by simp only [hCs', hn], (hco.mono (hφ _) (fun _ h => h) (fun g hg => hg.elim (hwM g) fun hg => hw g (fun e => hgF (e ▸ hg)))).app (hc.mono (hφ _) (fun _ h => h) (fun g hg => hwM g (hg.resolve_right (by simp)))),
        fun j u hj => by
          show C'[l.o + j]? = some u
          by_cases hju : j < us.length
          · rw [List.getElem?_append_left hju] at hj
            rw [hold _ (by omega)]; exact hcells j u hj
          · rw [List.getElem?_append_right (by omega)] at hj
            have := hnew _ u hj
            rwa [show l.o + len * sz + (j - us.length) = l.o + j by omega] at this, rfl⟩)
    refine ⟨_, _, _, _, hr, I', ?_⟩
    refine V.sl d 0 (len + n) sz false ⟨l.g, l.o, l.n⟩ c (upd_same _ _ _) hroom (by simpa using hln) (fun h => by cases h)
  · have hfc : (Builtin.firstCells sz len (.slice (some ⟨l.g, l.o + 0, none⟩) len c)).run P w.drew = .ok us.toArray w.drew := by
      have := (src_slice (P := P) (w := w) (sz := sz) (n := len) (c := c) (A := some ⟨l.g, l.o + 0, none⟩) (news := us) hus (fun j u hj => ⟨_, _, rfl, by rw [hB.cell, Nat.add_zero]; exact hcells j u hj⟩) (fun h => by cases h)).drew
      exact this
    have hr := run_app_grow (P := P) (w := w) (ty := ty) ht htx hi hs (by omega) hb hn63 hfc
    have hge := grownCap_ge w (len + n) c e
    generalize grownCap w (len + n) c e = c' at hr hge
    have I' := I1.newRow hd1 (hco.app hc) (C := us.toArray ++ news.toArray ++ Builtin.zeroCells z.cells (c' - (len + n))) (fun j u h => by
      rw [show (us.toArray ++ news.toArray : Array Value) = (us ++ news).toArray by simp]; exact app_getElem j u h) e (fun g hg => by
        have hgL := hFL g (by simpa using hg)
        exact ⟨hfree g hgL, I.low b cs hcs g hgL⟩) (by simpa using (List.nodup_cons.1 hnd).2)
    have hCs : (us.toArray ++ news.toArray ++ Builtin.zeroCells z.cells (c' - (len + n))).size = c' * sz := by
      simp only [Array.size_append, List.size_toArray, size_zeroCells, hzs, hus, hc.len, hxs, ← Nat.add_mul]
      congr 1; omega
    refine ⟨_, _, _, _, hr, I', ?_⟩
    refine V.sl d 0 (len + n) sz false _ _ (upd_same _ _ _) hge (by simp only [hCs]; omega) (fun h => by cases h)
theorem app_pf {t tx ty e : TypeId} {sz bytes n len cap off b : Nat} {z sv xv : Value} {news : List Value} {xs cs : List AV} (ht : P.underlying t = some (.slice e)) (htx : SeqT P tx) (hi : infoB P e sz bytes z)
    (hs : Src P w sz xv n news) (hc : Cs φ M w xs news []) (hxs : xs.length = n * sz) (I : Inv E φ M L st a.tmps w)
    (hv : V φ M w (.pf b off len cap sz) sv []) (hcs : st.h b = some (some cs)) (hroom : len + n ≤ cap) (hle : off + len * sz ≤ cs.length) :
    ∃ v w' L', (Builtin.append_ #[t, tx] ty #[sv, xv]).run P w = .ok v w' ∧ Inv E φ M L' (st.put b (some (putX cs (off + len * sz) xs))) a.tmps w' ∧ V φ M w' (.pf b off (len + n) cap sz) v [] := by
  obtain ⟨_, ⟨rfl, rfl, A, rfl⟩ | ⟨l, hl, rfl, k1, k2⟩⟩ := vpf hv
  · obtain rfl : n = 0 := by omega
    obtain rfl : xs = [] := List.length_eq_zero_iff.1 (by simpa using hxs)
    obtain rfl : news = [] := List.length_eq_zero_iff.1 hc.len
    have hr := run_app_room (P := P) (w := w) (ty := ty) (sLen := 0) (sCap := 0) (base := A) ht htx hi hs (Nat.le_refl _)
    have : (stRow A (0 * sz) []).run P w = .ok () w := by cases A <;> rfl
    rw [this, Result.andThen_ok] at hr
    exact ⟨_, _, L, hr, by rw [putX_nil, put_same hcs]; exact I, .pfz _ _ _ _⟩
  · have hr := run_app_room (P := P) (w := w) (ty := ty) (base := some ⟨l.g, l.o + off, none⟩) (sCap := cap) ht htx hi hs hroom
    have hsum : (len + n) * sz = len * sz + n * sz := Nat.add_mul ..
    obtain ⟨w', L', h4, h5⟩ := Inv.storesX (P := P) hl xs news w L st cs (off + len * sz) 0 I hcs hc.len (by omega) (by have := Nat.mul_le_mul_right sz hroom; omega) hc.one hc.all
    have hst : (stRow (some ⟨l.g, l.o + off, none⟩) (len * sz) news).run P w = .ok () w' := by
      simp only [stRow, add_none]
      rw [Nat.add_assoc]
      exact h4
    rw [hst, Result.andThen_ok] at hr
    exact ⟨_, _, L', hr, by simpa using h5, .pf b off (len + n) cap sz l hl hroom k2⟩
end
end Go.Proofs.YtiejaibmcmicoaaGreatDoor.Am
