/- The functions of the program, each by its contract: Docs; no condition. -/
import Derived.Test.YtadoadomogceiaaDoorProg
import Derived.Test.YtadoadomogceiaaDoorAmZ
import Derived.Test.YtadoadomogceiaaDoorAmP
import Derived.Test.YtadoadomogceiaaDoorAmD
import Derived.Test.YtadoadomogceiaaDoorDisk
import Derived.KernelRfl
namespace Go.Proofs.YtadoadomogceiaaDoor.Am
open Go Go.Proofs
set_option linter.unusedSimpArgs false
set_option linter.unusedVariables false
attribute [local congr] T_congr callK_congr callWK_congr
attribute [local simp] run_nil run_op0 run_opg run_seq run_cond run_block run_ret run_skip run_skip_after run_skip_blk run_exit run_exit_after run_exit_blk run_loop run_any runS_nil runS_op0 runS_opg runW_nil runW_op0 runW_opg exec_q exec_w exec_c exec_n execW_q execW_w execW_c restW_app hideH_app merge_app wblk rest_app restS_app execS_q execS_c aval dOk upd_app ev_t ev_c setO_some setO_none put_mk pinsOf isIo hasIo sbin endR fin resL one outL out1 clo1 cloL coe coeL shut shut.shutL wantA weff cellsOf fillA deref natOf ρ0_app h0_app plain plain.plainL keep_app keepH_app andThen_normal andThen_ret andThen_exit pop_nil pop_after pop_after_ret pop_after_exit pop_blk pop_blk_ret pop_blk_exit nilA srcOf srcCells keepR_app keepHR_app renA rb
def sameN (n : ByteArray) (x : Doc) : Bool := x.name.toList == n.toList
def lessN (n : ByteArray) (x : Doc) : Bool := Op.bytesLess x.name.toList n.toList
def docIx (n : ByteArray) (l : List Doc) : Int := idx (sameN n) l 0
/-- into its place -/
def insD (x : Doc) (o : List Doc) : List Doc := o.take (o.takeWhile (lessN x.name)).length ++ x :: o.drop (o.takeWhile (lessN x.name)).length
def noD (n : ByteArray) (l : List Doc) : List Doc := l.filter fun y => !sameN n y
def putD (l : List Doc) (x : Doc) : List Doc := if 6 ≤ (noD x.name l).length then l else insD x (noD x.name l)
def textAt (l : List Doc) (k : Int) : ByteArray := match l[k.toNat]? with | some x => x.text | none => ⟨#[]⟩
def doD (l : List Doc) (o : Op) : List Doc := if o.kind = 1 then putD l ⟨o.a, o.b⟩ else if o.kind = 2 ∧ 0 ≤ docIx o.a l then putD (noD o.a l) ⟨o.b, textAt l (docIx o.a l)⟩ else l
def docsF (want : Nat → Bool) : List Op → Nat → List Doc → List Doc
  | [], _, l => l
  | o :: os, i, l => docsF want os (i + 1) (if want i then doD l o else l)
def docsNowF (d : Disk) : List Doc := docsF (fun _ => true) d.pend 0 d.sure
theorem insD_len (x : Doc) (o : List Doc) : (insD x o).length = o.length + 1 := by
  have h : (o.takeWhile (lessN x.name)).length ≤ o.length := (List.takeWhile_prefix _).length_le
  simp [insD]; omega
theorem noD_len (n : ByteArray) (l : List Doc) : (noD n l).length ≤ l.length := List.length_filter_le _ _
theorem putD_len (l : List Doc) (x : Doc) : (putD l x).length ≤ max l.length 6 := by
  unfold putD
  split
  · omega
  · rw [insD_len]; omega
theorem doD_len (l : List Doc) (o : Op) : (doD l o).length ≤ max l.length 6 := by
  unfold doD
  split
  · exact putD_len _ _
  · split
    · have h1 := putD_len (noD o.a l) ⟨o.b, textAt l (docIx o.a l)⟩
      have h2 := noD_len o.a l
      omega
    · omega
theorem mem_insD {x y : Doc} {o : List Doc} (h : y ∈ insD x o) : y = x ∨ y ∈ o := by
  unfold insD at h
  rcases List.mem_append.1 h with h | h
  · exact .inr (List.mem_of_mem_take h)
  · rcases List.mem_cons.1 h with h | h
    · exact .inl h
    · exact .inr (List.mem_of_mem_drop h)
theorem mem_noD {n : ByteArray} {y : Doc} {l : List Doc} (h : y ∈ noD n l) : y ∈ l := (List.mem_filter.1 h).1
theorem mem_putD {x y : Doc} {l : List Doc} (h : y ∈ putD l x) : y = x ∨ y ∈ l := by
  unfold putD at h
  split at h
  · exact .inr h
  · exact (mem_insD h).imp id mem_noD
theorem docIx_at {n : ByteArray} {l : List Doc} (h : 0 ≤ docIx n l) : ∃ pre x rest, l = pre ++ x :: rest ∧ docIx n l = pre.length ∧ textAt l (docIx n l) = x.text := by
  rcases idx_cases (sameN n) l 0 with ⟨pre, x, rest, e, _, _, e2⟩ | ⟨_, e2⟩
  · have e2 : docIx n l = (pre.length : Int) := by unfold docIx; rw [e2]; omega
    refine ⟨pre, x, rest, e, e2, ?_⟩
    rw [e2]
    simp [textAt, e]
  · have e2 : docIx n l = -1 := e2
    omega
theorem docIx_neg {n : ByteArray} {l : List Doc} (h : ¬ 0 ≤ docIx n l) : docIx n l = -1 := by
  rcases idx_cases (sameN n) l 0 with ⟨pre, x, rest, e, _, _, e2⟩ | ⟨_, e2⟩
  · have e2 : docIx n l = (pre.length : Int) := by unfold docIx; rw [e2]; omega
    omega
  · exact e2
theorem doD_ok {l : List Doc} {o : Op} (hl : ∀ x ∈ l, Doc.ty.ok x) (ho : Op.ty.ok o) : ∀ x ∈ doD l o, Doc.ty.ok x := by
  obtain ⟨_, o2, o3, _⟩ := ho
  intro x hx
  unfold doD at hx
  split at hx
  · rcases mem_putD hx with rfl | hx
    · exact ⟨o2, o3, trivial⟩
    · exact hl x hx
  · split at hx
    · rename_i h2
      rcases mem_putD hx with rfl | hx
      · obtain ⟨pre, y, rest, e, _, e3⟩ := docIx_at h2.2
        refine ⟨o3, ?_, trivial⟩
        show (textAt l (docIx o.a l)).size ≤ _
        rw [e3]
        exact (hl y (by rw [e]; simp)).2.1
      · exact hl x (mem_noD hx)
    · exact hl x hx
theorem docsF_len (want : Nat → Bool) : ∀ (os : List Op) (i : Nat) (l : List Doc), (docsF want os i l).length ≤ max l.length 6
  | [], _, l => by simp only [docsF]; omega
  | o :: os, i, l => by
    have h1 := docsF_len want os (i + 1) (if want i then doD l o else l)
    have h2 := doD_len l o
    simp only [docsF]
    split at h1 <;> simp_all <;> omega
theorem docsF_ok (want : Nat → Bool) : ∀ (os : List Op) (i : Nat) (l : List Doc), (∀ o ∈ os, Op.ty.ok o) → (∀ x ∈ l, Doc.ty.ok x) → ∀ x ∈ docsF want os i l, Doc.ty.ok x
  | [], _, l, _, hl => hl
  | o :: os, i, l, ho, hl => by
    have h2 := doD_ok hl (ho o (by simp))
    simp only [docsF]
    refine docsF_ok want os (i + 1) _ (fun o h => ho o (by simp [h])) ?_
    split
    · exact h2
    · exact hl
/- 65: loop.example/g00464/impl.docAt$1 -/
def A65 : AC := (.seq (.ops [⟨(some 2), none, .w (.box (.t 0))⟩, ⟨(some 3), none, .q (.mov (.c (.sc (.bool false))))⟩])
  (.seq (.ops [⟨(some 4), none, .q (.fadr 0 (.t 2))⟩, ⟨(some 5), none, .q (.load false 1 (.t 4))⟩, ⟨(some 6), none, .q (.load false 1 (.t 1))⟩, ⟨(some 7), none, .q (.bin .eql (.t 5) (.t 6))⟩, ⟨(some 3), none, .q (.mov (.t 7))⟩])
  .ret))
theorem K65 : Tryd.f65.body.bind (comp Tryd.prog) = some A65 ∧ Tryd.f65.ntmps = 8 ∧ Tryd.f65.results.toList.mapM (resB Tryd.prog) = some [.mov (.t 3)] := ⟨by kernel_rfl, by kernel_rfl, by kernel_rfl⟩
theorem R65 (n : ByteArray) (x : Doc) : Ret Tryd.prog 65 [.agg (Doc.ty.cs x), .rp [.sc (.string n)] 0] (.sc (.bool (sameN n x))) [.un, .un] := by
  refine Ret.run Tryd.func65 K65 (by simp) rfl rfl 500 ?_
  simp [A65, iniρ, Doc.cse, sameN]
/- 92: loop.example/g00464/impl.withoutDoc$1 -/
def A92 : AC := (.seq (.ops [⟨(some 2), none, .w (.box (.t 0))⟩, ⟨(some 3), none, .q (.mov (.c (.sc (.bool false))))⟩])
  (.seq (.ops [⟨(some 4), none, .q (.fadr 0 (.t 2))⟩, ⟨(some 5), none, .q (.load false 1 (.t 4))⟩, ⟨(some 6), none, .q (.load false 1 (.t 1))⟩, ⟨(some 7), none, .q (.bin .eql (.t 5) (.t 6))⟩, ⟨(some 3), none, .q (.mov (.t 7))⟩])
  .ret))
theorem K92 : Tryd.f92.body.bind (comp Tryd.prog) = some A92 ∧ Tryd.f92.ntmps = 8 ∧ Tryd.f92.results.toList.mapM (resB Tryd.prog) = some [.mov (.t 3)] := ⟨by kernel_rfl, by kernel_rfl, by kernel_rfl⟩
theorem R92 (n : ByteArray) (x : Doc) : Ret Tryd.prog 92 [.agg (Doc.ty.cs x), .rp [.sc (.string n)] 0] (.sc (.bool (sameN n x))) [.un, .un] := by
  refine Ret.run Tryd.func92 K92 (by simp) rfl rfl 500 ?_
  simp [A92, iniρ, Doc.cse, sameN]
theorem R64 (g : FuncId) (caps : List AV) (f : Doc → Bool) (hg : callB Tryd.prog g = true) (hsh : shut.shutL caps = true) (xs : List Doc) (hR : ∀ x ∈ xs, Ret Tryd.prog g (el true (Doc.ty.cs x) :: caps) (.sc (.bool (f x))) (.un :: caps.map fun _ => .un)) (hb : xs.length < 4611686018427387904) :
    Ret Tryd.prog 64 [.ro (rows Doc.ty.cs xs) xs.length, .clo g caps] (.sc (.int .i64 (idx f xs 0))) [.un, .un] :=
  Ret.indexFunc Doc.ty (agg := true) Tryd.func64 ⟨by kernel_rfl, by kernel_rfl, by kernel_rfl⟩ (fun h => by cases h) g caps f hg hsh xs hR hb
/- 40: loop.example/g00464/impl.docAt -/
def A40 : AC := (.seq (.ops [⟨(some 3), none, .w (.box (.t 1))⟩, ⟨(some 4), none, .q (.mov (.c (.sc (.int .i64 0))))⟩])
  (.seq (.ops [⟨(some 5), none, .q (.mov (.t 0))⟩, ⟨(some 6), none, .q (.mkf 65 [(.t 3)])⟩, ⟨(some 7), none, .c (.c (.clo 64 [])) [(.t 5), (.t 6)]⟩, ⟨(some 4), none, .q (.mov (.t 7))⟩])
  .ret))
theorem K40 : Tryd.f40.body.bind (comp Tryd.prog) = some A40 ∧ Tryd.f40.ntmps = 8 ∧ Tryd.f40.results.toList.mapM (resB Tryd.prog) = some [.mov (.t 4)] := ⟨by kernel_rfl, by kernel_rfl, by kernel_rfl⟩
theorem R40 (xs : List Doc) (n : ByteArray) (hb : xs.length < 4611686018427387904) : Ret Tryd.prog 40 [.ro (rows Doc.ty.cs xs) xs.length, .sc (.string n)] (.sc (.int .i64 (docIx n xs))) [.un, .un] := by
  refine Ret.run Tryd.func40 K40 (by simp) rfl rfl 500 ?_
  simp [A40, iniρ]
  refine callK.ro 0 rfl (by kernel_rfl) (ys := [.ro (rows Doc.ty.cs xs) xs.length, .clo 65 [.rp [.sc (.string n)] 0]]) (by simp [roc_ro, upd_app, roc]) (R64 65 [.rp [.sc (.string n)] 0] (sameN n) (by kernel_rfl) rfl xs (fun x _ => R65 n x) hb) rfl rfl rfl ?_
  simp [docIx]
theorem R66 (xs : List Doc) (hb : xs.length * 32 ≤ 140737488355328) : Ret Tryd.prog 66 [.ro (rows Doc.ty.cs xs) xs.length] (.own (rows Doc.ty.oc xs) xs.length 2) [.un] := Ret.clone Doc.ty rfl (bytes := 32) Tryd.func66 ⟨by kernel_rfl, by kernel_rfl, by kernel_rfl⟩ xs hb
theorem R67 (xs : List Op) (hb : xs.length * 40 ≤ 140737488355328) : Ret Tryd.prog 67 [.ro (rows Op.ty.cs xs) xs.length] (.own (rows Op.ty.oc xs) xs.length 3) [.un] := Ret.clone Op.ty rfl (bytes := 40) Tryd.func67 ⟨by kernel_rfl, by kernel_rfl, by kernel_rfl⟩ xs hb
theorem R69 (xs : List Doc) : Ret Tryd.prog 69 [.own (rows Doc.ty.oc xs) xs.length 2] (.own (rows Doc.ty.oc xs) xs.length 2) [.un] := Ret.clip Doc.ty Tryd.func69 ⟨by kernel_rfl, by kernel_rfl, by kernel_rfl⟩ xs
theorem R91 (g : FuncId) (caps : List AV) (f : Doc → Bool) (hg : callB Tryd.prog g = true) (hsh : shut.shutL caps = true) (xs : List Doc) (hR : ∀ x ∈ xs, Ret Tryd.prog g (.agg (Doc.ty.cs x) :: caps) (.sc (.bool (f x))) (.un :: caps.map fun _ => .un)) (hb : xs.length < 4611686018427387904) :
    Ret Tryd.prog 91 [.own (rows Doc.ty.oc xs) xs.length 2, .clo g caps] (.own (rows Doc.ty.oc (xs.filter fun x => !f x)) (xs.filter fun x => !f x).length 2) [.un, .un] :=
  Ret.deleteFunc Doc.ty rfl (ix := 64) Tryd.func91 ⟨by kernel_rfl, by kernel_rfl, by kernel_rfl⟩ g caps f hg (by kernel_rfl) hsh xs hR (R64 g caps f hg hsh xs hR hb) hb
/- 80: loop.example/g00464/impl.withoutDoc -/
def A80 : AC := (.seq (.ops [⟨(some 3), none, .w (.box (.t 1))⟩, ⟨(some 4), none, .q (.mov (.c .em))⟩])
  (.seq (.ops [⟨(some 5), none, .q (.mov (.t 0))⟩, ⟨(some 6), none, .c (.c (.clo 66 [])) [(.t 5)]⟩, ⟨(some 7), none, .q (.mkf 92 [(.t 3)])⟩, ⟨(some 8), none, .c (.c (.clo 91 [])) [(.t 6), (.t 7)]⟩, ⟨(some 4), none, .q (.mov (.t 8))⟩])
  .ret))
theorem K80 : Tryd.f80.body.bind (comp Tryd.prog) = some A80 ∧ Tryd.f80.ntmps = 9 ∧ Tryd.f80.results.toList.mapM (resB Tryd.prog) = some [.mov (.t 4)] := ⟨by kernel_rfl, by kernel_rfl, by kernel_rfl⟩
theorem R80 (xs : List Doc) (n : ByteArray) (hb : xs.length * 32 ≤ 140737488355328) : Ret Tryd.prog 80 [.ro (rows Doc.ty.cs xs) xs.length, .sc (.string n)] (.own (rows Doc.ty.oc (noD n xs)) (noD n xs).length 2) [.un, .un] := by
  have hb2 : xs.length < 4611686018427387904 := by omega
  refine Ret.run Tryd.func80 K80 (by simp) rfl rfl 500 ?_
  simp [A80, iniρ]
  refine callK.own 6 rfl (by kernel_rfl) (by simp [roc_ro]) (R66 xs hb) (Doc.ty.flo xs) (by simp) rfl ?_
  simp
  refine callK.mv1 8 6 rfl (by kernel_rfl) (by simp [upd_app]) (by simp) (Doc.ocl xs) (Doc.frL xs) (vs := [.clo 92 [.rp [.sc (.string n)] 0]]) (by simp [roc, upd_app]) (R91 92 [.rp [.sc (.string n)] 0] (sameN n) (by kernel_rfl) rfl xs (fun x _ => R92 n x) hb2) (Doc.ty.flo _) (by simp [inst]; exact ⟨rfl, rfl⟩) rfl ?_
  have e : (xs.filter fun x => !sameN n x) = noD n xs := rfl
  simp [e, ex1, Doc.ocl, Doc.frL]
theorem R90 (xs : List Doc) (i : Nat) (x : Doc) (hi : i ≤ xs.length) (hb : (xs.length + 1) * 32 ≤ 140737488355328) : Ret Tryd.prog 90 [.own (rows Doc.ty.oc xs) xs.length 2, .sc (.int .i64 i), .own (Doc.ty.oc x) 1 2] (.own (rows Doc.ty.oc (xs.take i ++ x :: xs.drop i)) (xs.length + 1) 2) [.un, .un, .un] :=
  Ret.insert mixed Doc.ty rfl (ov := 102) (rr := 103) (bytes := 32) Tryd.func90 ⟨by kernel_rfl, by kernel_rfl, by kernel_rfl⟩ (OvF.of Tryd.func102 (by kernel_rfl) (by kernel_rfl) (by kernel_rfl) (by kernel_rfl) (by kernel_rfl)) xs i x hi hb (by omega)
end Go.Proofs.YtadoadomogceiaaDoor.Am
