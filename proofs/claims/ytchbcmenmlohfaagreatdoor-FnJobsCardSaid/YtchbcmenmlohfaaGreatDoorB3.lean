/- The small machine and the contracts of the functions, part 3 (WaitS, WaitLaw, JobFacts, JobsLaw, JobI, JobS, LawJobs); no condition. -/
import Derived.Test.YtchbcmenmlohfaaGreatDoorProg
import Derived.Test.YtchbcmenmlohfaaGreatDoorAmH
import Derived.Test.YtchbcmenmlohfaaGreatDoorB2
import Derived.KernelRfl
import Derived.Test.YtchbcmenmlohfaaGreatDoorB1
namespace Go.Proofs.YtchbcmenmlohfaaGreatDoor.Am
open Go Go.Proofs
set_option linter.unusedSimpArgs false
set_option linter.unusedVariables false
attribute [local congr] T_congr callK_congr callWK_congr
attribute [local simp] run_nil run_op0 run_opg run_seq run_cond run_block run_ret run_skip run_skip_after run_skip_blk run_exit run_exit_after run_exit_blk run_loop run_any runS_nil runS_op0 runS_opg runW_nil runW_op0 runW_opg exec_q exec_w exec_c exec_n execW_q execW_w execW_c restW_app hideH_app merge_app wblk rest_app restS_app execS_q execS_c aval dOk upd_app ev_t ev_c setO_some setO_none put_mk pinsOf isIo hasIo sbin endR fin resL one outL out1 clo1 cloL coe coeL shut shut.shutL wantA weff cellsOf fillA deref natOf ρ0_app h0_app plain plain.plainL keep_app keepH_app andThen_normal andThen_ret andThen_exit pop_nil pop_after pop_after_ret pop_after_exit pop_blk pop_blk_ret pop_blk_exit nilA srcOf srcCells keepR_app keepHR_app renA rb toldρ toldH toldT toldB menQ_sc menQ_sl menQ_ref menQ_em menQ_un menQ_roT mens_cons mens_nil toldF merge_nil hideH_nil str_n rows_nil rowsS_len rowsC_len rowsC_fr rowsS_fr Rd_mk Rl_mk menB exQ_exit exQ_ret wrap_i64 bs_size bs_list bs_toList bs_get bs_extract mk_bs bs_eta List.getElem?_cons_zero List.getElem?_cons_succ List.length_cons oLt oNlt oLe oNle nLt nNlt nLe nNle iniρ andThen_normal over
set_option maxRecDepth 100000
def allV (ws : List Pack) (p : ByteArray) (l : List ByteArray) : List ByteArray := l.flatMap (onV ws p)
def notB (x y : ByteArray) : Bool := !(y.toList == x.toList)
def waitS (ws : List Pack) (rs : List Rule) (p t : ByteArray) : List ByteArray := sortedV ((allV ws p (ruleO rs t).on).filter (notB (nmT p t)))
theorem allV_snoc (ws : List Pack) (p : ByteArray) (l : List ByteArray) (o : ByteArray) : allV ws p (l ++ [o]) = allV ws p l ++ onV ws p o := by simp [allV]
theorem onV_len {ws : List Pack} (hu : ∀ x ∈ ws, x.uses.length ≤ 1048577) (p o : ByteArray) : (onV ws p o).length ≤ 1048577 := by
  unfold onV
  split
  · rename_i tl _
    cases h : ws.find? (sameP p) with
    | none => simp
    | some x =>
      have h1 := hu x (List.mem_of_find?_eq_some h)
      have h2 : (onU ws (bs tl) x.uses).length ≤ x.uses.length := by unfold onU; rw [List.length_map]; exact List.length_filter_le ..
      exact Nat.le_trans h2 h1
  · unfold onP
    split <;> simp
theorem allV_len {ws : List Pack} (hu : ∀ x ∈ ws, x.uses.length ≤ 1048577) (p : ByteArray) : ∀ l : List ByteArray, (allV ws p l).length ≤ l.length * 1048577
  | [] => Nat.zero_le _
  | o :: l => by
    have h1 := allV_len hu p l
    have h2 := onV_len hu p o
    have e : allV ws p (o :: l) = onV ws p o ++ allV ws p l := by simp [allV]
    rw [e, List.length_append, List.length_cons]
    omega
theorem filter_snoc {α : Type} (f : α → Bool) (l : List α) (x : α) : (l ++ [x]).filter f = if f x = true then l.filter f ++ [x] else l.filter f := by
  rw [List.filter_append]
  cases h : f x <;> simp [h]
set_option maxHeartbeats 2000000 in
theorem R31 (ws : List Pack) (rs : List Rule) (p t : ByteArray) (hp : p.size ≤ 1048576) (ht : t.size ≤ 1048576) (hw : ws.length ≤ 1048577) (hu : ∀ x ∈ ws, x.uses.length ≤ 1048577) (huz : ∀ x ∈ ws, ∀ y ∈ x.uses, y.size ≤ 1048576) (hc : ∀ x ∈ ws, x.cmds.length ≤ 1048577) (hr : rs.length ≤ 1048577) (hR : ∀ x ∈ rs, RL x) (hO : ∀ x ∈ rs, ∀ y ∈ x.on, y.size ≤ 1048576) :
    Ret Tryz.prog 31 [.ro (rows Pack.ty.cs ws) ws.length, .ro (rows Rule.ty.cs rs) rs.length, .sc (.string p), .sc (.string t)] (.own (rows Ty.str.oc (waitS ws rs p t)) (waitS ws rs p t).length 1) [.un, .un, .un, .un] := by
  have rR := R28 rs t hr hR
  have rN := R19 p t hp ht
  have hro : (ruleO rs t).on.length ≤ 1048577 ∧ ∀ y ∈ (ruleO rs t).on, y.size ≤ 1048576 := by
    rw [ruleO]
    cases h : rs.find? (sameR t) with
    | none => simp
    | some x => exact ⟨(hR x (List.mem_of_find?_eq_some h)).o, hO x (List.mem_of_find?_eq_some h)⟩
  unfold waitS
  generalize ruleO rs t = r at *
  obtain ⟨hn, hz⟩ := hro
  have hf := ruleFl r (hasR rs t)
  rw [Rule.oce] at rR hf
  generalize r.on = os at *
  have hal := allV_len hu p os
  have ho1 := Ty.str.frL os
  have ho2 := rowsS_len os
  have ha1 := Ty.str.frL (allV ws p os)
  refine Ret.go Tryz.func31 ?_
  simp (disch := omega) []
  refine cR rR ?_ (hfl := hf)
  simp (disch := omega) []
  refine T.cutL [(2, .sc (.string p)), (3, .sc (.string t)), (11, .sl 21 0 (allV ws p os).length 1 false)] [(21, rows Ty.str.oc (allV ws p os))] ?_ ?_
  · have hA : ∀ pre o rest, pre ++ o :: rest = os → allV ws p (pre ++ [o]) = allV ws p pre ++ onV ws p o ∧ (onV ws p o).length ≤ 1048577 ∧ (allV ws p pre).length ≤ pre.length * 1048577 ∧ Ret Tryz.prog 58 [.ro (rows Pack.ty.cs ws) ws.length, .sc (.string p), .sc (.string o)] (.own (rows Ty.str.oc (onV ws p o)) (onV ws p o).length 1) [.un, .un, .un] := fun pre o rest e =>
      ⟨allV_snoc .., onV_len hu p o, allV_len hu p pre, R58 ws p o hw hp (hz o (by rw [← e]; simp)) hu huz hc⟩
    have hA0 : allV ws p [] = [] := rfl
    generalize allV ws p = F at *
    generalize onV ws p = G at *
    refine T.forR os (fun _ _ => True) (fun q _ => [(0, .ro (rows Pack.ty.cs ws) ws.length), (2, .sc (.string p)), (3, .sc (.string t)), (9, .ref 9 0), (11, .sl 21 0 (F q).length 1 false), (12, .sc (.int .i64 q.length))]) (fun q _ => [(21, rows Ty.str.oc (F q)), (1001001, rows Ty.str.oc os), (1001002, rows Ty.str.oc r.ins), (1001003, rows Ty.str.oc r.envs), (9, [.sc (.string r.task), .sl 1001001 0 os.length 1 false, .sl 1001002 0 r.ins.length 1 false, .sl 1001003 0 r.envs.length 1 false, .sc (.bool r.keep)])]) ⟨trivial, Tl.same rfl (by simp [hA0]) (by simp [hA0, rows_nil, mens_idf ho1, mens_idf (rowsS_fr _)])⟩ ?_ ?_
    · intro _
      simp (disch := omega) []
      exact Tl.same rfl (by simp) (by simp [mens_idf ha1])
    · intro q o rest hx hl2 _
      obtain ⟨e1, e2, e3, rO⟩ := hA q o rest hx
      rw [e1]
      have hdd : List.drop q.length (rows Ty.str.oc os) = .sc (.string o) :: rows Ty.str.oc rest := by rw [rowsO_drop, ← hx, drop_pre, rowsO_cons]
      have hr1 := rowsS_len (F q)
      have hr2 := Ty.str.frL (F q ++ G o)
      have hr3 := rowsS_len (G o)
      simp (disch := omega) [hdd]
      refine cO 37 rO ?_ (Ty.str.flo _)
      have hb2 : (q.length : Nat) * 1048577 ≤ 1099512676352 := by omega
      simp (disch := omega) [hr1]
      exact Tl.rn [(38, 21), (9, 9), (1001001, 1001001), (1001002, 1001002), (1001003, 1001003)] rfl (by simp [menB, idfree, rows_append, ho1, hr2, rowsS_fr])
  · generalize allV ws p os = al at *
    have hl : al.length ≤ 4398046511104 := by
      have := Nat.mul_le_mul_right 1048577 hn
      omega
    have hF : ∀ q x, List.filter (notB (nmT p t)) (q ++ [x]) = if notB (nmT p t) x = true then List.filter (notB (nmT p t)) q ++ [x] else List.filter (notB (nmT p t)) q := fun q x => filter_snoc ..
    have hFl : ∀ q : List ByteArray, (List.filter (notB (nmT p t)) q).length ≤ q.length := fun q => List.length_filter_le ..
    have hF0 : List.filter (notB (nmT p t)) [] = [] := rfl
    have hnb : ∀ x : ByteArray, notB (nmT p t) x = !(x.toList == (p ++ bs [35] ++ t).toList) := fun x => rfl
    have rS := fun l => R59 l
    generalize List.filter (notB (nmT p t)) = F at *
    simp (disch := omega) []
    refine T.forR al (fun _ _ => True) (fun q _ => [(2, .sc (.string p)), (3, .sc (.string t)), (11, .sl 21 0 al.length 1 false), (13, .sl 39 0 (F q).length 1 false), (14, .sc (.int .i64 q.length))]) (fun q _ => [(21, rows Ty.str.oc al), (39, rows Ty.str.oc (F q))]) ⟨trivial, Tl.same rfl (by simp [hF0]) (by simp [hF0, rows_nil, mens_idf ha1])⟩ ?_ ?_
    · intro _
      have h1 := hFl al
      have h2 := rS (F al) (by omega)
      generalize F al = fa at *
      have h3 := Ty.str.frL (sortedV fa)
      have h4 := rowsS_len (sortedV fa)
      simp (disch := omega) []
      refine T.on 400 ?_
      simp (disch := omega) []
      refine cO 62 h2 ?_ (Ty.str.flo _) (hys := by simp [rocS])
      simp (disch := omega) [ex1, h3, h4]
    · intro q o rest hx hl2 _
      rw [hF]
      have hdd : List.drop q.length (rows Ty.str.oc al) = .sc (.string o) :: rows Ty.str.oc rest := by rw [rowsO_drop, ← hx, drop_pre, rowsO_cons]
      have hr1 := rowsS_len (F q)
      have hr2 := rowsS_fr (F q ++ [o])
      rw [rowsS_snoc] at hr2
      have h1 := hFl q
      simp (disch := omega) []
      refine T.text 400 mixed (by kernel_rfl) (by kernel_rfl) ?_
      simp (disch := omega) [hdd]
      refine callSK.by rfl (by kernel_rfl) (by simp [roc_sc, roc_ro]) rN ?_
      cases h : o.toList == (p ++ bs [35] ++ t).toList
      · have hb : notB (nmT p t) o = true := by rw [hnb, h]; rfl
        rw [if_pos hb]
        simp (disch := omega) [h, hdd, hr1]
        exact Tl.rn [(60, 39), (21, 21)] rfl (by simp [menB, idfree, rowsS_snoc, hr2, rowsS_fr])
      · have hb : ¬ notB (nmT p t) o = true := by rw [hnb, h]; simp
        rw [if_neg hb]
        simp (disch := omega) [h]
        exact Tl.same rfl (by simp) (by simp [mens_idf (rowsS_fr _)])
set_option maxRecDepth 100000
def ruleOns : List ByteArray := [(bs [94, 98, 117, 105, 108, 100]), (bs [94, 108, 105, 110, 116]), (bs [98, 117, 105, 108, 100]), (bs [97, 35, 98, 117, 105, 108, 100]), (bs [98, 35, 116, 101, 115, 116])]
def okC (ws : List Pack) (d : Doc) : Bool := (cmdO ws d.name d.text).isSome
theorem told_up {ws : List Pack} {p o : ByteArray} {tl : List UInt8} (h1 : (cutF o 35).2.2 = false) (h2 : hatB o = true) (h3 : unC o = bs tl) (h4 : o.data.toList = 94 :: tl) (hus : ∀ x ∈ ws, ∀ y ∈ x.uses, (35 : UInt8) ∉ y.data.toList) :
    onV ws p o = ((toldV ws p o).filter (okC ws)).map nmD ∧ ∀ d ∈ toldV ws p o, (35 : UInt8) ∉ d.name.data.toList ∨ d.name = p := by
  cases h : ws.find? (sameP p) with
  | none =>
    have e1 : toldV ws p o = [] := by simp [toldV, h1, h2, h]
    have e2 : onV ws p o = [] := by simp [onV, h4, h]
    rw [e1, e2]
    exact ⟨rfl, fun d hd => by cases hd⟩
  | some x =>
    have e1 : toldV ws p o = usesD x.uses (bs tl) := by simp [toldV, h1, h2, h3, h]
    have e2 : onV ws p o = onU ws (bs tl) x.uses := by simp [onV, h4, h]
    rw [e1, e2]
    refine ⟨?_, fun d hd => ?_⟩
    · unfold onU usesD
      rw [List.filter_map, List.map_map]
      rfl
    · obtain ⟨y, hy, rfl⟩ := List.mem_map.1 hd
      exact .inl (hus x (List.mem_of_find?_eq_some h) y hy)
theorem told_on {ws : List Pack} {p o : ByteArray} (ho : o ∈ ruleOns) (hus : ∀ x ∈ ws, ∀ y ∈ x.uses, (35 : UInt8) ∉ y.data.toList) :
    onV ws p o = ((toldV ws p o).filter (okC ws)).map nmD ∧ ∀ d ∈ toldV ws p o, (35 : UInt8) ∉ d.name.data.toList ∨ d.name = p := by
  have one : ∀ (a b : ByteArray), onP ws (a, b) = ([(⟨a, b⟩ : Doc)].filter (okC ws)).map nmD := fun a b => by
    have e : okC ws ⟨a, b⟩ = (cmdO ws a b).isSome := rfl
    unfold onP
    cases h : (cmdO ws a b).isSome <;> simp [e, h, nmD]
  simp only [ruleOns, List.mem_cons, List.not_mem_nil, or_false] at ho
  rcases ho with rfl | rfl | rfl | rfl | rfl
  · exact told_up (tl := [98, 117, 105, 108, 100]) rfl rfl rfl rfl hus
  · exact told_up (tl := [108, 105, 110, 116]) rfl rfl rfl rfl hus
  · have e : toldV ws p (bs [98, 117, 105, 108, 100]) = [⟨p, (bs [98, 117, 105, 108, 100])⟩] := rfl
    rw [e]
    exact ⟨one p _, fun d hd => by rw [List.mem_singleton.1 hd]; exact .inr rfl⟩
  · have e : toldV ws p (bs [97, 35, 98, 117, 105, 108, 100]) = [⟨(bs [97]), (bs [98, 117, 105, 108, 100])⟩] := rfl
    rw [e]
    exact ⟨one _ _, fun d hd => by rw [List.mem_singleton.1 hd]; exact .inl (by decide)⟩
  · have e : toldV ws p (bs [98, 35, 116, 101, 115, 116]) = [⟨(bs [98]), (bs [116, 101, 115, 116])⟩] := rfl
    rw [e]
    exact ⟨one _ _, fun d hd => by rw [List.mem_singleton.1 hd]; exact .inl (by decide)⟩
theorem split35 : ∀ {a c : List UInt8} {b d : List UInt8}, (35 : UInt8) ∉ a → (35 : UInt8) ∉ c → a ++ 35 :: b = c ++ 35 :: d → a = c ∧ b = d
  | [], [], b, d, _, _, h => ⟨rfl, by simpa using h⟩
  | [], y :: c, b, d, _, h2, h => by
    simp only [List.nil_append, List.cons_append, List.cons.injEq] at h
    exact (h2 (by simp [h.1])).elim
  | x :: a, [], b, d, h1, _, h => by
    simp only [List.nil_append, List.cons_append, List.cons.injEq] at h
    exact (h1 (by simp [h.1])).elim
  | x :: a, y :: c, b, d, h1, h2, h => by
    simp only [List.cons_append, List.cons.injEq] at h
    obtain ⟨k1, k2⟩ := split35 (fun e => h1 (by simp [e])) (fun e => h2 (by simp [e])) h.2
    exact ⟨by rw [h.1, k1], k2⟩
theorem nmT_list (p t : ByteArray) : (nmT p t).toList = p.data.toList ++ 35 :: t.data.toList := by
  rw [Lib.toList_data]
  unfold nmT
  rw [ByteArray.data_append, ByteArray.data_append]
  simp
theorem nmT_inj {a b p t : ByteArray} (ha : (35 : UInt8) ∉ a.data.toList) (hp : (35 : UInt8) ∉ p.data.toList) : notB (nmT p t) (nmT a b) = !(a.toList == p.toList && b.toList == t.toList) := by
  unfold notB
  congr 1
  rw [nmT_list, nmT_list, Lib.toList_data, Lib.toList_data, Lib.toList_data, Lib.toList_data, Bool.eq_iff_iff]
  simp only [beq_iff_eq, Bool.and_eq_true]
  exact ⟨fun h => split35 ha hp h, fun ⟨h1, h2⟩ => by rw [h1, h2]⟩
theorem wait_eq {ws : List Pack} {rs : List Rule} {p t : ByteArray} (hp : (35 : UInt8) ∉ p.data.toList) (hon : ∀ o ∈ (ruleO rs t).on, o ∈ ruleOns) (hus : ∀ x ∈ ws, ∀ y ∈ x.uses, (35 : UInt8) ∉ y.data.toList) : waitI ws rs p t = waitS ws rs p t := by
  unfold waitI waitS
  rw [sort_eq]
  congr 1
  generalize (ruleO rs t).on = os at hon ⊢
  induction os with
  | nil => rfl
  | cons o os ih =>
    have e1 : waitL ws p t (o :: os) = pickD ws p t (toldV ws p o) ++ waitL ws p t os := by simp [waitL]
    have e2 : allV ws p (o :: os) = onV ws p o ++ allV ws p os := by simp [allV]
    rw [e1, e2, List.filter_append, ih fun x hx => hon x (by simp [hx])]
    congr 1
    obtain ⟨h1, h2⟩ := told_on (ws := ws) (p := p) (hon o (by simp)) hus
    rw [h1, pickD, List.filter_map, List.filter_filter]
    congr 1
    refine List.filter_congr fun d hd => ?_
    have hd35 : (35 : UInt8) ∉ d.name.data.toList := (h2 d hd).elim id fun e => e ▸ hp
    show (!isD p t d && okC ws d) = (notB (nmT p t) (nmT d.name d.text) && okC ws d)
    rw [nmT_inj hd35 hp]
    rfl
set_option maxRecDepth 100000
theorem pkNm_is (k : Nat) : pkNm k ∈ [(bs [97]), (bs [98]), (bs [99]), (bs [100]), (bs [])] := by
  unfold pkNm
  cases h : pkNmL[k]? with
  | none =>
    rw [show (none : Option ByteArray).getD default = bs [] from rfl]
    simp
  | some x =>
    have := List.mem_of_getElem? h
    simp only [pkNmL, List.mem_cons, List.not_mem_nil, or_false] at this
    simp only [Option.getD_some, List.mem_cons]
    rcases this with h | h | h | h <;> simp [h]
theorem pkNm_35 (k : Nat) : (35 : UInt8) ∉ (pkNm k).data.toList := by
  have := pkNm_is k
  simp only [List.mem_cons, List.not_mem_nil, or_false] at this
  rcases this with h | h | h | h | h <;> rw [h] <;> decide
theorem kindB_size (i : Nat) : (kindB i).size ≤ 10 := by
  unfold kindB
  cases h : kindL[i]? with
  | none => decide
  | some x =>
    have := List.mem_of_getElem? h
    simp only [kindL, List.mem_cons, List.not_mem_nil, or_false] at this
    rcases this with rfl | rfl | rfl <;> decide
structure PkS (x : Pack) : Prop where
  n : x.name.size ≤ 1
  c : x.cmds.length ≤ 3
  u : x.uses.length ≤ 4
  us : ∀ y ∈ x.uses, y.size ≤ 1 ∧ (35 : UInt8) ∉ y.data.toList
  a : ∀ c ∈ x.cmds, c.acts.length ≤ 3 ∧ ∀ y ∈ c.acts, y.size ≤ 100
theorem cmdF_S {p t : ByteArray} (hp : p.size ≤ 1) (ht : t.size ≤ 10) {c : Cur} (h : c.ok) : (cmdF p t c).1.acts.length ≤ 3 ∧ ∀ y ∈ (cmdF p t c).1.acts, y.size ≤ 100 := by
  have h1 : ∀ x ∈ act0L p t, x.size ≤ 100 := by
    simp only [act0L, List.mem_cons, List.not_mem_nil, or_false]
    rintro x (rfl | rfl | rfl) <;> simp [catA, ByteArray.size_append, bs_size] <;> omega
  have h2 : ∀ x ∈ pactL p, x.size ≤ 100 := by
    simp only [pactL, List.mem_cons, List.not_mem_nil, or_false]
    rintro x (rfl | rfl | rfl | rfl | rfl | rfl | rfl | rfl | rfl | rfl | rfl) <;> simp [catA, ByteArray.size_append, bs_size] <;> omega
  have h3 := (nat4_eq (belowC c 3) (n := 3) (by omega)).2
  refine ⟨?_, (iterN_ok (f := addN (actF p)) (fun l => ∀ y ∈ l, y.size ≤ 100) (fun c l h i => ⟨actF_ok p h, fun y hy => ?_⟩) _ _ _ (belowC_ok (belowC_ok h 3) 3) (fun y hy => ?_)).2⟩
  · simp only [cmdF, addN_len, List.length_cons, List.length_nil]
    omega
  · rcases List.mem_append.1 hy with hy | hy
    · exact i y hy
    · rw [List.mem_singleton.1 hy]; exact pick_size h2 _ _
  · rw [List.mem_singleton.1 hy]; exact pick_size h1 _ _
theorem packN_S {p : ByteArray} (hp : p.size ≤ 1) : ∀ (n i : Nat) (c : Cur) (l : List Cmd), c.ok → n + l.length ≤ 3 → (∀ x ∈ l, x.acts.length ≤ 3 ∧ ∀ y ∈ x.acts, y.size ≤ 100) → (packN p n i c l).1.length ≤ 3 ∧ ∀ x ∈ (packN p n i c l).1, x.acts.length ≤ 3 ∧ ∀ y ∈ x.acts, y.size ≤ 100
  | 0, i, c, l, _, h, k => ⟨by simpa [packN] using h, k⟩
  | n + 1, i, c, l, hc, h, k => by
    have h1 := packS_len (p := p) (i := i) (c := c) (l := l)
    refine packN_S hp n (i + 1) _ _ (packS_ok hc) (by omega) fun x hx => ?_
    unfold packS at hx
    split at hx
    · rcases List.mem_append.1 hx with hx | hx
      · exact k x hx
      · rw [List.mem_singleton.1 hx]
        exact cmdF_S hp (kindB_size i) (belowC_ok hc 2)
    · exact k x hx
theorem usesN_S {i : Nat} : ∀ (n k : Nat) (c : Cur) (l : List ByteArray), n + l.length ≤ 4 → (∀ y ∈ l, y.size ≤ 1 ∧ (35 : UInt8) ∉ y.data.toList) → (usesN i n k c l).1.length ≤ 4 ∧ ∀ y ∈ (usesN i n k c l).1, y.size ≤ 1 ∧ (35 : UInt8) ∉ y.data.toList
  | 0, k, c, l, h, hl => ⟨by simpa [usesN] using h, hl⟩
  | n + 1, k, c, l, h, hl => by
    have h1 : (usesS i k c l).1.length ≤ l.length + 1 ∧ ∀ y ∈ (usesS i k c l).1, y.size ≤ 1 ∧ (35 : UInt8) ∉ y.data.toList := by
      unfold usesS
      split
      · split
        · refine ⟨by simp, fun y hy => ?_⟩
          rcases List.mem_append.1 hy with hy | hy
          · exact hl y hy
          · rw [List.mem_singleton.1 hy]; exact ⟨pkNm_size k, pkNm_35 k⟩
        · exact ⟨by simp, hl⟩
      · exact ⟨by simp, hl⟩
    exact usesN_S n (k + 1) _ _ (by omega) h1.2
theorem onePk_S {m i : Nat} (hm : m ≤ 4) {c : Cur} (h : c.ok) : PkS (onePk m i c).1 := by
  have h1 := packN_S (p := pkNm i) (pkNm_size i) 3 0 (needsF c).2 [] (needsF_ok h) (by simp) (by simp)
  have h2 := usesN_S (i := i) m 0 (packF (pkNm i) c).2 [] (by simpa using hm) (by simp)
  exact ⟨pkNm_size i, h1.1, h2.1, h2.2, h1.2⟩
theorem packsN_S {m : Nat} (hm : m ≤ 4) : ∀ (n i : Nat) (c : Cur) (l : List Pack), c.ok → n + l.length ≤ 4 → (∀ x ∈ l, PkS x) → (packsN m n i c l).1.length ≤ 4 ∧ ∀ x ∈ (packsN m n i c l).1, PkS x
  | 0, i, c, l, _, h, hl => ⟨by simpa [packsN] using h, hl⟩
  | n + 1, i, c, l, hc, h, hl => packsN_S hm n (i + 1) _ _ (onePk_ok hc) (by simp; omega) fun x hx => by
    rcases List.mem_append.1 hx with hx | hx
    · exact hl x hx
    · rw [List.mem_singleton.1 hx]; exact onePk_S hm hc
theorem packsF_S {c : Cur} (h : c.ok) : (packsF c).1.length ≤ 4 ∧ ∀ x ∈ (packsF c).1, PkS x := by
  have h3 := (nat4_eq c (n := 4) (by omega)).2
  exact packsN_S (m := nat4 c 4 + 1) (by omega) _ _ _ [] (belowC_ok h 4) (by simp; omega) (by simp)
structure RuS (x : Rule) : Prop where
  t : x.task.size ≤ 10
  o : x.on.length ≤ 2
  i : x.ins.length ≤ 2
  e : x.envs.length ≤ 1
  os : ∀ y ∈ x.on, y ∈ ruleOns
  is : ∀ y ∈ x.ins, y.size ≤ 100
  es : ∀ y ∈ x.envs, y.size ≤ 100
theorem ruleF_S {t : ByteArray} (ht : t.size ≤ 10) {c : Cur} (h : c.ok) : RuS (ruleF t c).1 := by
  have hl : 0 < (ruleOnL t).length ∧ (ruleOnL t).length ≤ 256 ∧ ∀ y ∈ ruleOnL t, y ∈ ruleOns := by
    unfold ruleOnL
    split <;> exact ⟨by decide, by decide, by simp [ruleOns]⟩
  have h1 := someF_ok (xs := ruleOnL t) (n := 2) h
  have h2 := someF_ok (xs := ruleInL) (n := 2) h1
  have i2 : ∀ y ∈ ruleInL, y.size ≤ 100 := by decide
  have i3 : ∀ y ∈ ruleEnvL, y.size ≤ 100 := by decide
  exact ⟨ht, someF_len, someF_len, someF_len, fun y hy => hl.2.2 y (someF_mem hl.1 hl.2.1 h y hy), fun y hy => i2 y (someF_mem (by decide) (by decide) h1 y hy), fun y hy => i3 y (someF_mem (by decide) (by decide) h2 y hy)⟩
theorem rulesN_S : ∀ (n i : Nat) (c : Cur) (l : List Rule), c.ok → n + l.length ≤ 3 → (∀ x ∈ l, RuS x) → (rulesN n i c l).1.length ≤ 3 ∧ ∀ x ∈ (rulesN n i c l).1, RuS x
  | 0, i, c, l, _, h, hl => ⟨by simpa [rulesN] using h, hl⟩
  | n + 1, i, c, l, hc, h, hl => by
    have h1 : (ruleS i c l).1.length ≤ l.length + 1 ∧ ∀ x ∈ (ruleS i c l).1, RuS x := by
      unfold ruleS
      split
      · exact ⟨by simp, hl⟩
      · refine ⟨by simp, fun y hy => ?_⟩
        rcases List.mem_append.1 hy with hy | hy
        · exact hl y hy
        · rw [List.mem_singleton.1 hy]; exact ruleF_S (kindB_size i) (belowC_ok hc 4)
    exact rulesN_S n (i + 1) _ _ (ruleS_ok hc) (by omega) h1.2
theorem rulesF_S {c : Cur} (h : c.ok) : (rulesF c).1.length ≤ 3 ∧ ∀ x ∈ (rulesF c).1, RuS x := rulesN_S 3 0 c [] h (by simp) (by simp)
def MaS (m : Made) : Prop := m.task.size ≤ 10 ∧ m.outs.length ≤ 2 ∧ (∀ x ∈ m.outs, x.path.size ≤ 5 ∧ x.text.size ≤ 5) ∧ m.log.size ≤ 10
theorem jmades_S {m : Nat} {c : Cur} (h : c.ok) : ∀ x ∈ (iterN jmadeS m c []).1, MaS x :=
  (iterN_ok (f := jmadeS) (fun l => ∀ x ∈ l, MaS x) (fun c l h i => ⟨jmadeS_ok l h, fun x hx => by
    rcases List.mem_append.1 hx with hx | hx
    · exact i x hx
    · rw [List.mem_singleton.1 hx]
      obtain ⟨_, h2, h3⟩ := madeP_ok (belowC_ok h 4)
      exact ⟨pick_size (by decide) _ _, h2, h3, pick_size (by decide) _ _⟩⟩) m c [] h (by simp)).2
theorem jmades_len : ∀ (m : Nat) (c : Cur) (l : List Made), (iterN jmadeS m c l).1.length = l.length + m
  | 0, _, _ => rfl
  | m + 1, c, l => by
    rw [iterN, jmades_len m]
    simp [jmadeS]; omega
structure JdS (x : Jd) : Prop where
  p : x.w.ps.length ≤ 4 ∧ ∀ y ∈ x.w.ps, PkS y
  r : x.w.rs.length ≤ 3 ∧ ∀ y ∈ x.w.rs, RuS y
  f : x.w.fs.length ≤ 8 ∧ ∀ y ∈ x.w.fs, y.path.size ≤ 10 ∧ y.text.size ≤ 10
  e : x.w.es.length ≤ 1 ∧ ∀ y ∈ x.w.es, y.name.size ≤ 10 ∧ y.val.size ≤ 10
  m : x.ms.length ≤ 3 ∧ ∀ y ∈ x.ms, MaS y
  pt : parseT (nmT x.p x.t) = some (x.p, x.t) ∧ x.p.size ≤ 10 ∧ x.t.size ≤ 10 ∧ (35 : UInt8) ∉ x.p.data.toList
theorem jtask_pt {p t : ByteArray} (hp : p ∈ jpackL) (ht : t ∈ jtaskL) : parseT (nmT p t) = some (p, t) ∧ p.size ≤ 10 ∧ t.size ≤ 10 ∧ (35 : UInt8) ∉ p.data.toList := by
  simp only [jpackL, List.mem_cons, List.not_mem_nil, or_false] at hp
  simp only [jtaskL, List.mem_cons, List.not_mem_nil, or_false] at ht
  rcases hp with rfl | rfl | rfl | rfl <;> rcases ht with rfl | rfl | rfl <;> exact ⟨by kernel_rfl, by decide, by decide, by decide⟩
theorem jobDF_S {code : List Int} (h : Ty.byte.slice.ok code) : JdS (jobDF code) := by
  have h0 := newC_ok h
  simp only [jobDF, worldF]
  generalize newC code = c at *
  have p1 := packsF_S h0
  have p2 := packsF_ok h0
  generalize packsF c = a at *
  have r1 := rulesF_S p2
  have r2 := rulesF_ok p2
  generalize rulesF a.2 = b at *
  have f1 := dfilesF_ok r2
  have f2 := dfilesF_len b.2
  generalize dfilesF b.2 = f at *
  have h1 := belowC_ok f1.1 2
  have e1 : (pickS wmodeL f.2 2).size ≤ 10 := pick_size (by decide) _ _
  generalize pickS wmodeL f.2 2 = v at *
  generalize belowC f.2 2 = d at *
  have h2 := (nat4_eq d (n := 4) (by omega)).2
  have m1 := jmades_S (m := nat4 d 4) (belowC_ok h1 4)
  have m2 := jmades_len (nat4 d 4) (belowC d 4) []
  generalize iterN jmadeS (nat4 d 4) (belowC d 4) [] = g at *
  refine ⟨p1, r1, ⟨f2, f1.2⟩, ⟨by simp, fun y hy => ?_⟩, ⟨by rw [m2]; simp; omega, m1⟩, ?_⟩
  · rw [List.mem_singleton.1 hy]; exact ⟨show (bs [109, 111, 100, 101]).size ≤ 10 by decide, e1⟩
  · have hp := pickS_in (l := jpackL) (n := 4) (by omega) rfl (by omega) g.2
    have ht := pickS_in (l := jtaskL) (n := 3) (by omega) rfl (by omega) (belowC g.2 4)
    exact jtask_pt hp ht
set_option maxRecDepth 100000
def wtI (x : Jd) (q : ByteArray × ByteArray) : List ByteArray := waitI x.w.ps x.w.rs q.1 q.2
def jobX (x : Jd) (fs : List File) : Job := jobOfV (wtI x) x.w.ps x.w.rs fs x.w.es x.ms (nmT x.p x.t)
theorem MaS_ok {m : Made} (h : MaS m) : Made.ty.ok m := by
  obtain ⟨h1, h2, h3, h4⟩ := h
  refine ⟨show m.task.size ≤ 140737488351232 by omega, ⟨show m.outs.length * 32 ≤ 140737488351232 by omega, fun y hy => ⟨show y.path.size ≤ 140737488351232 by have := h3 y hy; omega, show y.text.size ≤ 140737488351232 by have := h3 y hy; omega, trivial⟩⟩, show m.log.size ≤ 140737488351232 by omega, trivial⟩
theorem jd_JB {x : Jd} (h : JdS x) {fs : List File} (hf : fs.length ≤ 8 ∧ ∀ y ∈ fs, y.path.size ≤ 10 ∧ y.text.size ≤ 10) : JB x.w.ps x.w.rs fs x.w.es x.ms where
  w := Nat.le_trans h.p.1 (by decide)
  c y hy := Nat.le_trans (h.p.2 y hy).c (by decide)
  a y hy c hc := Nat.le_trans ((h.p.2 y hy).a c hc).1 (by decide)
  r := Nat.le_trans h.r.1 (by decide)
  rl y hy := ⟨Nat.le_trans (h.r.2 y hy).o (by decide), Nat.le_trans (h.r.2 y hy).i (by decide), Nat.le_trans (h.r.2 y hy).e (by decide)⟩
  iz y hy z hz := Nat.le_trans ((h.r.2 y hy).is z hz) (by decide)
  f := Nat.le_trans hf.1 (by decide)
  fz y hy := Nat.le_trans (hf.2 y hy).1 (by decide)
  e := Nat.le_trans h.e.1 (by decide)
  m := Nat.le_trans h.m.1 (by decide)
  mo y hy := MaS_ok (h.m.2 y hy)
theorem ruleOns_size : ∀ y ∈ ruleOns, y.size ≤ 1048576 := by decide
theorem jd_rule {x : Jd} (h : JdS x) (t : ByteArray) : (ruleO x.w.rs t).on.length ≤ 2 ∧ ∀ o ∈ (ruleO x.w.rs t).on, o ∈ ruleOns :=
  ruleO_ok (Q := fun r => r.on.length ≤ 2 ∧ ∀ o ∈ r.on, o ∈ ruleOns) (fun y hy => ⟨(h.r.2 y hy).o, (h.r.2 y hy).os⟩) ⟨by simp, by simp⟩
theorem jd_uses {x : Jd} (h : JdS x) : ∀ y ∈ x.w.ps, y.uses.length ≤ 1048577 := fun y hy => Nat.le_trans (h.p.2 y hy).u (by decide)
theorem wtI_len {x : Jd} (h : JdS x) (q : ByteArray × ByteArray) : (wtI x q).length ≤ 2097154 := by
  have h1 := waitL_len (jd_uses h) q.1 q.2 (ruleO x.w.rs q.2).on
  have h2 := (jd_rule h q.2).1
  have h3 := compact_len (sortM (waitL x.w.ps q.1 q.2 (ruleO x.w.rs q.2).on))
  have h4 := sortM_len (waitL x.w.ps q.1 q.2 (ruleO x.w.rs q.2).on)
  have h5 : (wtI x q).length = (compactV (sortM (waitL x.w.ps q.1 q.2 (ruleO x.w.rs q.2).on))).length := rfl
  have h6 := Nat.mul_le_mul_right 1048577 h2
  omega
theorem wtI_eq {x : Jd} (h : JdS x) {q : ByteArray × ByteArray} (hq : (35 : UInt8) ∉ q.1.data.toList) : waitS x.w.ps x.w.rs q.1 q.2 = wtI x q :=
  (wait_eq hq (jd_rule h q.2).2 fun y hy z hz => ((h.p.2 y hy).us z hz).2).symm
theorem wtI_asc (x : Jd) (q : ByteArray × ByteArray) : (wtI x q).Pairwise ltS := by
  unfold wtI waitI
  rw [sort_eq]
  exact sortedV_asc _
theorem sameM_eq {a b : ByteArray} {m : Made} (h1 : sameM a m = true) (h2 : sameM b m = true) : a = b := by
  have e1 : m.task.toList = a.toList := by simpa [sameM] using h1
  have e2 : m.task.toList = b.toList := by simpa [sameM] using h2
  rw [e1, Lib.toList_data, Lib.toList_data] at e2
  exact ByteArray.ext (Array.toList_inj.1 e2)
theorem deps_le : ∀ (ms : List Made) (l : List ByteArray), l.Pairwise ltS → (depsV ms l).length ≤ ms.length
  | [], l, _ => by
    have : depsV [] l = [] := by simp [depsV]
    rw [this]; exact Nat.le_refl _
  | m :: ms, l, h => by
    have ih := deps_le ms (l.filter fun x => !sameM x m) (h.filter _)
    have h1 : (l.filter fun x => sameM x m).length ≤ 1 := by
      cases e : l.filter fun x => sameM x m with
      | nil => simp
      | cons a k =>
        cases k with
        | nil => simp
        | cons b k =>
          have hp : (a :: b :: k).Pairwise ltS := e ▸ h.filter _
          have ha : a ∈ l.filter fun x => sameM x m := by rw [e]; simp
          have hb : b ∈ l.filter fun x => sameM x m := by rw [e]; simp
          have := sameM_eq (List.mem_filter.1 ha).2 (List.mem_filter.1 hb).2
          subst this
          have := List.rel_of_pairwise_cons hp (List.mem_cons_self ..)
          exact (ltS_irr _ this).elim
    have h2 : ∀ l : List ByteArray, (depsV (m :: ms) l).length = (l.filter fun x => sameM x m).length + (depsV ms (l.filter fun x => !sameM x m)).length := by
      intro l
      induction l with
      | nil => rfl
      | cons x l ih =>
        unfold depsV at ih ⊢
        rw [List.filterMap_cons, List.find?_cons]
        cases hx : sameM x m
        · simp only [List.filter_cons, hx, Bool.false_eq_true, if_false, Bool.not_false, if_true, List.filterMap_cons]
          cases ms.find? (sameM x) with
          | none => exact ih
          | some y => simp only [List.length_cons, ih]; omega
        · simp only [List.filter_cons, hx, if_true, Bool.not_true, Bool.false_eq_true, if_false, List.length_cons, ih]; omega
    rw [h2, List.length_cons]
    omega
theorem jobX_deps {x : Jd} (fs : List File) : (jobX x fs).deps.length ≤ x.ms.length := by
  unfold jobX jobOfV
  cases parseT (nmT x.p x.t) with
  | none => exact Nat.zero_le _
  | some q =>
    cases h : cmdO x.w.ps q.1 q.2 with
    | none => simp only [h]; exact Nat.zero_le _
    | some c => simp only [h]; exact deps_le _ _ (wtI_asc x q)
theorem jobX_ok {x : Jd} (h : JdS x) {fs : List File} (hf : fs.length ≤ 8 ∧ ∀ y ∈ fs, y.path.size ≤ 10 ∧ y.text.size ≤ 10) : Job.ty.ok (jobX x fs) := by
  have hd := jobX_deps (x := x) fs
  have hn : (nmT x.p x.t).size ≤ 21 := by
    have := h.pt
    rw [nmT, ByteArray.size_append, ByteArray.size_append]
    have e : (ByteArray.mk #[35]).size = 1 := rfl
    omega
  unfold jobX jobOfV at hd ⊢
  have z0 : 0 ≤ 140737488351232 := Nat.zero_le _
  have h0 : Job.ty.ok noJob := ⟨z0, ⟨z0, fun y hy => by cases hy⟩, ⟨z0, fun y hy => by cases hy⟩, ⟨z0, fun y hy => by cases hy⟩, ⟨z0, fun y hy => by cases hy⟩, trivial⟩
  cases hq : parseT (nmT x.p x.t) with
  | none => exact h0
  | some q =>
    cases hc : cmdO x.w.ps q.1 q.2 with
    | none => simp only [hc]; exact h0
    | some c =>
      rw [hq] at hd
      simp only [hc] at hd ⊢
      obtain ⟨y, hy, hcy⟩ := cmdO_mem hc
      obtain ⟨a1, a2⟩ := (h.p.2 y hy).a c hcy
      have f1 : (fs.filter (pickB (ruleO x.w.rs q.2).ins)).length ≤ fs.length := List.length_filter_le ..
      have e1 := envsV_len x.w.es (ruleO x.w.rs q.2).envs
      have e2 : (ruleO x.w.rs q.2).envs.length ≤ 1 := ruleO_ok (Q := fun r => r.envs.length ≤ 1) (fun y hy => (h.r.2 y hy).e) (by simp)
      have hm := h.m.1
      refine ⟨show (nmT x.p x.t).size ≤ 140737488351232 by omega, ⟨show c.acts.length * 16 ≤ 140737488351232 by omega, fun z hz => show z.size ≤ 140737488351232 by have := a2 z hz; omega⟩, ⟨Nat.le_trans (Nat.mul_le_mul_right 32 (Nat.le_trans f1 hf.1)) (by decide), fun z hz => ?_⟩, ⟨Nat.le_trans (Nat.mul_le_mul_right 32 (Nat.le_trans e1 e2)) (by decide), fun z hz => ?_⟩, ⟨Nat.le_trans (Nat.mul_le_mul_right 56 (Nat.le_trans hd hm)) (by decide), fun z hz => ?_⟩, trivial⟩
      · have := hf.2 z (List.mem_filter.1 hz).1
        exact ⟨show z.path.size ≤ 140737488351232 by omega, show z.text.size ≤ 140737488351232 by omega, trivial⟩
      · obtain ⟨w, _, hw⟩ := List.mem_filterMap.1 hz
        have := h.e.2 z (List.mem_of_find?_eq_some hw)
        exact ⟨show z.name.size ≤ 140737488351232 by omega, show z.val.size ≤ 140737488351232 by omega, trivial⟩
      · obtain ⟨w, _, hw⟩ := List.mem_filterMap.1 hz
        exact MaS_ok (h.m.2 z (List.mem_of_find?_eq_some hw))
def turnF (ps : List ByteArray) (f : File) : File := if hasB ps f.path = true then f else ⟨f.path, (bs [116, 117, 114, 110, 101, 100])⟩
def pathsV (l : List File) : List ByteArray := l.map (·.path)
theorem turn_path (ps : List ByteArray) (f : File) : (turnF ps f).path = f.path := by
  unfold turnF
  split <;> rfl
theorem turn_picked (gs ps : List ByteArray) (l : List File) : pathsV ((l.map (turnF ps)).filter (pickB gs)) = pathsV (l.filter (pickB gs)) := by
  induction l with
  | nil => rfl
  | cons f l ih =>
    have e : pickB gs (turnF ps f) = pickB gs f := by unfold pickB; rw [turn_path]
    rw [List.map_cons, List.filter_cons, List.filter_cons, e]
    split
    · simp only [pathsV, List.map_cons, turn_path]
      exact congrArg _ ih
    · exact ih
theorem turn_filter (gs : List ByteArray) (l : List File) : (l.map (turnF (pathsV (l.filter (pickB gs))))).filter (pickB gs) = l.filter (pickB gs) := by
  have key : ∀ k : List File, (∀ f ∈ k, f ∈ l) → (k.map (turnF (pathsV (l.filter (pickB gs))))).filter (pickB gs) = k.filter (pickB gs) := by
    intro k
    induction k with
    | nil => intro _; rfl
    | cons f k ih =>
      intro hk
      have e : pickB gs (turnF (pathsV (l.filter (pickB gs))) f) = pickB gs f := by unfold pickB; rw [turn_path]
      rw [List.map_cons, List.filter_cons, List.filter_cons, e, ih fun g hg => hk g (by simp [hg])]
      cases hp : pickB gs f
      · rfl
      · have hm : hasB (pathsV (l.filter (pickB gs))) f.path = true := by
          unfold hasB
          refine List.any_eq_true.2 ⟨f.path, List.mem_map.2 ⟨f, List.mem_filter.2 ⟨hk f (by simp), hp⟩, rfl⟩, by simp [eqS]⟩
        rw [turnF, if_pos hm]
  exact key l fun f hf => hf
theorem jobX_turn {x : Jd} (h : JdS x) (fs : List File) : jobX x (fs.map (turnF (pathsV (fs.filter (pickB (ruleO x.w.rs x.t).ins))))) = jobX x fs := by
  unfold jobX jobOfV
  rw [h.pt.1]
  simp only
  rw [turn_filter]
theorem turn_small {ps : List ByteArray} {fs : List File} (hf : fs.length ≤ 8 ∧ ∀ y ∈ fs, y.path.size ≤ 10 ∧ y.text.size ≤ 10) : (fs.map (turnF ps)).length ≤ 8 ∧ ∀ y ∈ fs.map (turnF ps), y.path.size ≤ 10 ∧ y.text.size ≤ 10 := by
  refine ⟨by simpa using hf.1, fun y hy => ?_⟩
  obtain ⟨f, hm, rfl⟩ := List.mem_map.1 hy
  have := hf.2 f hm
  unfold turnF
  split
  · exact this
  · exact ⟨this.1, show (bs [116, 117, 114, 110, 101, 100]).size ≤ 10 by decide⟩
theorem eqByR {α : Type} {f : α → α → Bool} (h : ∀ x, f x x = true) : ∀ xs : List α, eqBy f xs xs = true
  | [] => rfl
  | x :: xs => by simp [eqBy, h x, eqByR h xs]
theorem strEqR (a : ByteArray) : strEq a a = true := by simp [strEq]
theorem jobEqR (j : Job) : jobEq j j = true := by
  have h1 : ∀ f : File, fileEq f f = true := fun f => by simp [fileEq, strEqR]
  have h2 : ∀ f : Env, envEq f f = true := fun f => by simp [envEq, strEqR]
  have h3 : ∀ f : Made, madeEq f f = true := fun f => by simp [madeEq, strEqR, eqByR h1]
  simp [jobEq, strEqR, eqByR h1, eqByR h2, eqByR h3, eqByR strEqR]
theorem turn_cur (gs ps : List ByteArray) (q rest : List File) : pathsV ((q.map (turnF ps) ++ rest).filter (pickB gs)) = pathsV ((q ++ rest).filter (pickB gs)) := by
  have h := turn_picked gs ps q
  rw [List.filter_append, List.filter_append]
  unfold pathsV at h ⊢
  rw [List.map_append, List.map_append, h]
theorem rowsF_set (q rest : List File) (y : File) (t : ByteArray) (n : Nat) (hn : q.length = n) : (rows File.ty.oc (q ++ y :: rest)).set (n * 2 + 1) (.sc (.string t)) = rows File.ty.oc (q ++ ⟨y.path, t⟩ :: rest) := by
  have hl : (rows File.ty.oc q).length = n * 2 := by rw [File.ocl, hn]
  rw [rows_append, rows_append, rows_cons, rows_cons, List.set_append_right _ _ (by omega), hl, show n * 2 + 1 - n * 2 = 1 by omega]
  rfl
set_option maxRecDepth 100000
set_option maxHeartbeats 4000000 in
theorem R6 (wt : ByteArray × ByteArray → List ByteArray) (ws : List Pack) (rs : List Rule) (fs : List File) (es : List Env) (ms : List Made) (task : ByteArray) (hts : task.size ≤ 1048576) (b : JB ws rs fs es ms)
    (hW : ∀ q, parseT task = some q → (wt q).length ≤ 1100000000000 ∧ Ret Tryz.prog 23 [.ro (rows Pack.ty.cs ws) ws.length, .ro (rows Rule.ty.cs rs) rs.length, .sc (.string q.1), .sc (.string q.2)] (.own (rows Ty.str.oc (wt q)) (wt q).length 1) [.un, .un, .un, .un]) :
    Ret Tryz.prog 6 [.ro (rows Pack.ty.cs ws) ws.length, .ro (rows Rule.ty.cs rs) rs.length, .ro (rows File.ty.cs fs) fs.length, .ro (rows Env.ty.cs es) es.length, .ro (rows Made.ty.cs ms) ms.length, .sc (.string task)] (.agg (Job.ty.oc (jobOfV wt ws rs fs es ms task))) [.un, .un, .un, .un, .un, .un] := by
  have rP := R9 task (by omega)
  unfold jobOfV
  have stop : ∀ (q : ByteArray × ByteArray) (ok : Bool), Ret Tryz.prog 9 [.sc (.string task)] (.tup [.sc (.string q.1), .sc (.string q.2), .sc (.bool ok)]) [.un] → (ok = false ∨ cmdO ws q.1 q.2 = none) →
      Ret Tryz.prog 6 [.ro (rows Pack.ty.cs ws) ws.length, .ro (rows Rule.ty.cs rs) rs.length, .ro (rows File.ty.cs fs) fs.length, .ro (rows Env.ty.cs es) es.length, .ro (rows Made.ty.cs ms) ms.length, .sc (.string task)] (.agg (Job.ty.oc noJob)) [.un, .un, .un, .un, .un, .un] := fun q ok rP h => by
    have rA := R20 ws q.1 q.2 b.w b.c
    cases hc : cmdO ws q.1 q.2 <;> cases ok
    case some.true => rcases h with h | h <;> simp_all
    all_goals
      rw [hc, cmdA] at rA
      refine Ret.go Tryz.func6 ?_
      simp (disch := omega) []
      refine cR rP ?_
      simp (disch := omega) []
      refine cX 0 rA ?_
      simp (disch := omega) [Job.oce, noJob, ex1, rows_nil]
  cases hq : parseT task with
  | none =>
    rw [hq, taskA] at rP
    exact stop (_, _) false rP (.inl rfl)
  | some q =>
    rw [hq, taskA] at rP
    simp only
    cases hc : cmdO ws q.1 q.2 with
    | none => exact stop q true rP (.inr hc)
    | some c =>
      clear stop
      obtain ⟨hwl, rW⟩ := hW q hq
      have rA := R20 ws q.1 q.2 b.w b.c
      rw [hc, cmdA, Cmd.cse] at rA
      obtain ⟨x, hx, hcx⟩ := cmdO_mem hc
      have hca := b.a x hx c hcx
      have rR := R10 rs q.2 b.r b.rl
      have hRL : RL (ruleO rs q.2) := ruleO_ok b.rl ⟨by simp, by simp, by simp⟩
      have hiz := ruleO_ok (t := q.2) b.iz (by simp)
      have hf := ruleFl (ruleO rs q.2) (hasR rs q.2)
      generalize ruleO rs q.2 = r at *
      rw [Rule.oce] at rR hf
      have rC := R21 c.acts (by omega)
      have rK := R13 fs r.ins b.f hRL.i b.fz hiz
      have k1 := Ty.str.frL c.acts
      have k2 := File.frL (fs.filter (pickB r.ins))
      have k3 := rowsS_fr r.on
      have k4 := rowsS_fr r.ins
      have k5 := rowsS_fr r.envs
      have k6 := rowsS_len c.acts
      have k7 := File.ocl (fs.filter (pickB r.ins))
      generalize fs.filter (pickB r.ins) = pk at *
      refine Ret.go Tryz.func6 ?_
      simp (disch := omega) []
      refine cR rP ?_
      simp (disch := omega) []
      refine cX 0 rA ?_
      simp (disch := omega) []
      refine cR rR ?_ (hfl := hf)
      simp (disch := omega) []
      refine T.textE [(3, [57]), (7, [61]), (9, [20]), (10, [20])] ?_ mixed
      simp (disch := omega) []
      refine cW 57 rC ?_ (Ty.str.flo _)
      simp (disch := omega) [merge_nil, hideH_nil]
      refine cW 61 rK ?_ (File.ty.flo _) (hys := by simp [roc_ro, rocS])
      simp (disch := omega) [merge_nil, hideH_nil]
      have hel := hRL.e
      generalize r.envs = evs at *
      have hF : ∀ l x, envsV es (l ++ [x]) = match es.find? (sameE x) with | some e => envsV es l ++ [e] | none => envsV es l := envsV_snoc es
      have hFl := envsV_len es
      have hF0 : envsV es [] = [] := rfl
      have hrE := fun n => R22 es n (by have := b.e; omega)
      generalize envsV es = F at *
      refine T.le (Le.layS 20 3 500 2 (by simp; rfl) rfl (by simp)) (T.le (Le.layS 20 4 501 3 (by simp; rfl) rfl (by simp)) ?_)
      refine T.cutL [(0, .ro (rows Pack.ty.cs ws) ws.length), (1, .ro (rows Rule.ty.cs rs) rs.length), (4, .ro (rows Made.ty.cs ms) ms.length), (12, .ref 12 0), (13, .sc (.string q.1)), (14, .sc (.string q.2)), (20, .ref 20 0)] [(12, [.sc (.string (bs [])), .em, .em, .em, .em]), (57, rows Ty.str.oc c.acts), (61, rows File.ty.oc pk), (500, rows Env.ty.oc (F evs)), (501, []), (20, [.sc (.string task), .sl 57 0 c.acts.length 1 false, .sl 61 0 pk.length 2 false, .sl 500 0 (F evs).length 2 false, .sl 501 0 0 3 false])] ?_ ?_
      · refine T.forR evs (fun _ _ => True) (fun z _ => [(0, .ro (rows Pack.ty.cs ws) ws.length), (1, .ro (rows Rule.ty.cs rs) rs.length), (3, .ro (rows Env.ty.cs es) es.length), (4, .ro (rows Made.ty.cs ms) ms.length), (12, .ref 12 0), (13, .sc (.string q.1)), (14, .sc (.string q.2)), (20, .ref 20 0), (64, .sl 1001003 0 evs.length 1 false), (65, .sc (.int .i64 evs.length)), (66, .sc (.int .i64 z.length))]) (fun z _ => [(12, [.sc (.string (bs [])), .em, .em, .em, .em]), (57, rows Ty.str.oc c.acts), (61, rows File.ty.oc pk), (500, rows Env.ty.oc (F z)), (501, []), (1001003, rows Ty.str.oc evs), (20, [.sc (.string task), .sl 57 0 c.acts.length 1 false, .sl 61 0 pk.length 2 false, .sl 500 0 (F z).length 2 false, .sl 501 0 0 3 false])]) ⟨trivial, Tl.same rfl (by simp) (by simp [hF0, rows_nil, mens_idf k1, mens_idf k2, mens_idf k5])⟩ ?_ ?_
        · intro _
          simp (disch := omega) []
          exact Tl.same rfl (by simp) (by simp [mens_idf k1, mens_idf k2, mens_idf (Env.frL _)])
        · intro z x rest hx2 hl2 _
          have hdd : List.drop z.length (rows Ty.str.oc evs) = .sc (.string x) :: rows Ty.str.oc rest := by rw [rowsO_drop, ← hx2, drop_pre, rowsO_cons]
          have rE := hrE x
          have hr1 := Env.ocl (F z)
          have hlz := hFl z
          rw [hF]
          unfold getE at rE
          cases he : es.find? (sameE x) with
          | none =>
            rw [he] at rE
            simp (disch := omega) [hdd]
            refine cR rE ?_
            simp (disch := omega) []
            exact Tl.same rfl (by simp) (by simp [mens_idf k1, mens_idf k2, mens_idf k5, mens_idf (Env.frL _)])
          | some e =>
            rw [he] at rE
            have hen : (⟨x, e.val⟩ : Env) = e := by
              have h1 := List.find?_some he
              have h2 : e.name.toList = x.toList := by simpa [sameE] using h1
              rw [Lib.toList_data, Lib.toList_data] at h2
              have h3 : e.name = x := ByteArray.ext (Array.toList_inj.1 h2)
              rw [← h3]
            have hf2 := Env.frL (F z ++ [⟨x, e.val⟩])
            rw [rows_append, rows_one, Env.oce] at hf2
            simp only
            rw [← hen]
            simp (disch := omega) [hdd]
            refine cR rE ?_
            simp (disch := omega) [hr1]
            exact Tl.rn [(83, 500), (12, 12), (57, 57), (61, 61), (501, 501), (1001003, 1001003), (20, 20)] rfl (by simp [menB, idfree, idfree.idfreeL, k1, k2, k5, rows_append, rows_one, Env.oce, hf2])
      · generalize F evs = ev at *
        have hev := Env.frL ev
        have hevl := Env.ocl ev
        generalize wt q = wl at *
        have hG : ∀ l x, depsV ms (l ++ [x]) = match ms.find? (sameM x) with | some e => depsV ms l ++ [e] | none => depsV ms l := depsV_snoc ms
        have hGl := depsV_len ms
        have hG0 : depsV ms [] = [] := rfl
        have hrM := fun n => R24 ms n (by have := b.m; omega)
        have hwf := Ty.str.frL wl
        generalize depsV ms = G at *
        simp (disch := omega) []
        refine cO 90 rW ?_ (Ty.str.flo _)
        simp (disch := omega) []
        refine T.forR wl (fun _ _ => True) (fun z _ => [(4, .ro (rows Made.ty.cs ms) ms.length), (12, .ref 12 0), (20, .ref 20 0), (90, .sl 90 0 wl.length 1 false), (91, .sc (.int .i64 wl.length)), (92, .sc (.int .i64 z.length))]) (fun z _ => [(12, [.sc (.string (bs [])), .em, .em, .em, .em]), (57, rows Ty.str.oc c.acts), (61, rows File.ty.oc pk), (500, rows Env.ty.oc ev), (501, rows Made.ty.oc (G z)), (90, rows Ty.str.oc wl), (20, [.sc (.string task), .sl 57 0 c.acts.length 1 false, .sl 61 0 pk.length 2 false, .sl 500 0 ev.length 2 false, .sl 501 0 (G z).length 3 false])]) ⟨trivial, Tl.same rfl (by simp [hG0]) (by simp [hG0, rows_nil, mens_idf k1, mens_idf k2, mens_idf hev, mens_idf hwf])⟩ ?_ ?_
        · intro _
          have h1 := Made.frL (G wl)
          have h2 := Made.ocl (G wl)
          simp (disch := omega) []
          refine T.on 400 ?_
          simp (disch := omega) [ex1, Job.oce, k1, k2, k6, k7, hev, hevl, h1, h2]
        · intro z x rest hx2 hl2 _
          have hdd : List.drop z.length (rows Ty.str.oc wl) = .sc (.string x) :: rows Ty.str.oc rest := by rw [rowsO_drop, ← hx2, drop_pre, rowsO_cons]
          have rM := hrM x
          have hr1 := Made.ocl (G z)
          have hr0 := Made.frL (G z)
          have hlz := hGl z
          rw [hG]
          rcases idx_cases (sameM x) ms 0 with ⟨p1, m, p2, e1, h2, h1, e2⟩ | ⟨h1, e2⟩
          · have he : ms.find? (sameM x) = some m := by rw [e1]; exact find_pre h1 h2
            have hmi : mIx x ms = p1.length := by unfold mIx; rw [e2]; omega
            have hlt : p1.length < ms.length := by rw [e1]; simp
            have hmo := b.mo m (by rw [e1]; simp)
            have hdm : List.drop (p1.length * 3) (rows Made.ty.cs ms) = .sc (.string m.task) :: .ro (rows File.ty.cs m.outs) m.outs.length :: .sc (.string m.log) :: rows Made.ty.cs p2 := by rw [e1]; exact rows_drop Made.ty.csn p1 (m :: p2)
            have hml : m.outs.length * 32 ≤ 140737488351232 := hmo.2.1.1
            have rC := R25 m (by omega)
            rw [Made.oce, Made.cse] at rC
            have f1 := File.frL m.outs
            have f2 := File.ocl m.outs
            have hf2 := Made.frL (G z ++ [m])
            rw [rows_append, rows_one, Made.oce] at hf2
            rw [hmi] at rM
            rw [he]
            simp only
            simp (disch := omega) [hdd]
            refine cR rM ?_
            simp (disch := omega) []
            refine T.textE [(6, [1001]), (7, [108]), (8, [109, 501]), (10, [20])] ?_ mixed
            simp (disch := omega) [hdm]
            refine cW 0 rC ?_ (by simpa [flt, flt.fltL] using File.ty.flo m.outs)
            simp (disch := omega) [hr1, merge_nil, hideH_nil]
            refine Tl.pk 109 [1001] (rows Made.ty.oc (G z)) [.sc (.string m.task), .sl 1001 0 m.outs.length 2 false, .sc (.string m.log)] (Made.ty.oc m) (by simp) (by simp [pkL, pk1, Made.oce, f1, f2]) fun h' e1 e2 => ?_
            exact Tl.rn [(109, 501), (12, 12), (57, 57), (61, 61), (500, 500), (90, 90), (20, 20)] rfl (by simp [e1, e2, menB, idfree, idfree.idfreeL, k1, k2, hev, hwf, rows_append, rows_one, Made.oce, hf2])
          · have he : ms.find? (sameM x) = none := List.find?_eq_none.2 fun y hy => by simp [h1 y hy]
            have hmi : mIx x ms = -1 := e2
            rw [hmi] at rM
            rw [he]
            simp only
            simp (disch := omega) [hdd]
            refine cR rM ?_
            simp (disch := omega) []
            exact Tl.same rfl (by simp) (by simp [mens_idf k1, mens_idf k2, mens_idf hev, mens_idf hwf, mens_idf hr0])
set_option maxRecDepth 100000
set_option maxHeartbeats 4000000 in
theorem R7 (wt : ByteArray × ByteArray → List ByteArray) (ws : List Pack) (rs : List Rule) (fs : List File) (es : List Env) (ms : List Made) (task : ByteArray) (hts : task.size ≤ 1048576) (b : JB ws rs fs es ms)
    (hW : ∀ q, parseT task = some q → (wt q).length ≤ 1100000000000 ∧ Ret Tryz.prog 31 [.ro (rows Pack.ty.cs ws) ws.length, .ro (rows Rule.ty.cs rs) rs.length, .sc (.string q.1), .sc (.string q.2)] (.own (rows Ty.str.oc (wt q)) (wt q).length 1) [.un, .un, .un, .un]) :
    Ret Tryz.prog 7 [.ro (rows Pack.ty.cs ws) ws.length, .ro (rows Rule.ty.cs rs) rs.length, .ro (rows File.ty.cs fs) fs.length, .ro (rows Env.ty.cs es) es.length, .ro (rows Made.ty.cs ms) ms.length, .sc (.string task)] (.agg (Job.ty.oc (jobOfV wt ws rs fs es ms task))) [.un, .un, .un, .un, .un, .un] := by
  have rP := R26 task (by omega)
  unfold jobOfV
  have stop : ∀ (q : ByteArray × ByteArray) (ok : Bool), Ret Tryz.prog 26 [.sc (.string task)] (.tup [.sc (.string q.1), .sc (.string q.2), .sc (.bool ok)]) [.un] → (ok = false ∨ cmdO ws q.1 q.2 = none) →
      Ret Tryz.prog 7 [.ro (rows Pack.ty.cs ws) ws.length, .ro (rows Rule.ty.cs rs) rs.length, .ro (rows File.ty.cs fs) fs.length, .ro (rows Env.ty.cs es) es.length, .ro (rows Made.ty.cs ms) ms.length, .sc (.string task)] (.agg (Job.ty.oc noJob)) [.un, .un, .un, .un, .un, .un] := fun q ok rP h => by
    have rA := R27 ws q.1 q.2 b.w b.c
    cases hc : cmdO ws q.1 q.2 <;> cases ok
    case some.true => rcases h with h | h <;> simp_all
    all_goals
      rw [hc, cmdA] at rA
      refine Ret.go Tryz.func7 ?_
      simp (disch := omega) []
      refine cR rP ?_
      simp (disch := omega) []
      refine cX 0 rA ?_
      simp (disch := omega) [Job.oce, noJob, ex1, rows_nil]
  cases hq : parseT task with
  | none =>
    rw [hq, taskA] at rP
    exact stop (_, _) false rP (.inl rfl)
  | some q =>
    rw [hq, taskA] at rP
    simp only
    cases hc : cmdO ws q.1 q.2 with
    | none => exact stop q true rP (.inr hc)
    | some c =>
      clear stop
      obtain ⟨hwl, rW⟩ := hW q hq
      have rA := R27 ws q.1 q.2 b.w b.c
      rw [hc, cmdA, Cmd.cse] at rA
      obtain ⟨x, hx, hcx⟩ := cmdO_mem hc
      have hca := b.a x hx c hcx
      have rR := R28 rs q.2 b.r b.rl
      have hRL : RL (ruleO rs q.2) := ruleO_ok b.rl ⟨by simp, by simp, by simp⟩
      have hiz := ruleO_ok (t := q.2) b.iz (by simp)
      have hf := ruleFl (ruleO rs q.2) (hasR rs q.2)
      generalize ruleO rs q.2 = r at *
      rw [Rule.oce] at rR hf
      have rK := R29 fs r.ins b.f hRL.i b.fz hiz
      have k1 := Ty.str.frL c.acts
      have k2 := File.frL (fs.filter (pickB r.ins))
      have k3 := rowsS_fr r.on
      have k4 := rowsS_fr r.ins
      have k5 := rowsS_fr r.envs
      have k6 := rowsS_len c.acts
      have k7 := File.ocl (fs.filter (pickB r.ins))
      generalize fs.filter (pickB r.ins) = pk at *
      refine Ret.go Tryz.func7 ?_
      simp (disch := omega) []
      refine cR rP ?_
      simp (disch := omega) []
      refine cX 0 rA ?_
      simp (disch := omega) []
      refine cR rR ?_ (hfl := hf)
      simp (disch := omega) []
      refine T.textE [(1, [55]), (4, [58, 55]), (8, [62]), (10, [20]), (11, [20])] ?_ mixed
      have k8 : List.take c.acts.length (rows Ty.str.cs c.acts) = rows Ty.str.cs c.acts := takeS c.acts
      have k9 : (rows Ty.str.cs c.acts).length = c.acts.length := k6
      simp (disch := omega) [k8, k9, merge_nil, hideH_nil]
      refine cW 62 rK ?_ (File.ty.flo _) (hys := by simp [roc_ro, rocS])
      have k10 : rows Ty.str.cs c.acts = rows Ty.str.oc c.acts := rfl
      simp (disch := omega) [merge_nil, hideH_nil, k10]
      have hel := hRL.e
      generalize r.envs = evs at *
      have hF : ∀ l x, envsV es (l ++ [x]) = match es.find? (sameE x) with | some e => envsV es l ++ [e] | none => envsV es l := envsV_snoc es
      have hFl := envsV_len es
      have hF0 : envsV es [] = [] := rfl
      have hrE := fun n => R30 es n b.e
      generalize envsV es = F at *
      refine T.le (Le.layS 20 3 500 2 (by simp; rfl) rfl (by simp)) (T.le (Le.layS 20 4 501 3 (by simp; rfl) rfl (by simp)) ?_)
      refine T.cutL [(0, .ro (rows Pack.ty.cs ws) ws.length), (1, .ro (rows Rule.ty.cs rs) rs.length), (4, .ro (rows Made.ty.cs ms) ms.length), (12, .ref 12 0), (13, .sc (.string q.1)), (14, .sc (.string q.2)), (20, .ref 20 0)] [(12, [.sc (.string (bs [])), .em, .em, .em, .em]), (58, rows Ty.str.oc c.acts), (62, rows File.ty.oc pk), (500, rows Env.ty.oc (F evs)), (501, []), (20, [.sc (.string task), .sl 58 0 c.acts.length 1 false, .sl 62 0 pk.length 2 false, .sl 500 0 (F evs).length 2 false, .sl 501 0 0 3 false])] ?_ ?_
      · refine T.forR evs (fun _ _ => True) (fun z _ => [(0, .ro (rows Pack.ty.cs ws) ws.length), (1, .ro (rows Rule.ty.cs rs) rs.length), (3, .ro (rows Env.ty.cs es) es.length), (4, .ro (rows Made.ty.cs ms) ms.length), (12, .ref 12 0), (13, .sc (.string q.1)), (14, .sc (.string q.2)), (18, .ref 18 0), (20, .ref 20 0), (21, .sc (.int .i64 z.length))]) (fun z _ => [(12, [.sc (.string (bs [])), .em, .em, .em, .em]), (58, rows Ty.str.oc c.acts), (62, rows File.ty.oc pk), (500, rows Env.ty.oc (F z)), (501, []), (1001001, rows Ty.str.oc r.on), (1001002, rows Ty.str.oc r.ins), (1001003, rows Ty.str.oc evs), (18, [.sc (.string r.task), .sl 1001001 0 r.on.length 1 false, .sl 1001002 0 r.ins.length 1 false, .sl 1001003 0 evs.length 1 false, .sc (.bool r.keep)]), (20, [.sc (.string task), .sl 58 0 c.acts.length 1 false, .sl 62 0 pk.length 2 false, .sl 500 0 (F z).length 2 false, .sl 501 0 0 3 false])]) ⟨trivial, Tl.same rfl (by simp) (by simp [hF0, rows_nil, mens_idf k1, mens_idf k2, mens_idf k3, mens_idf k4, mens_idf k5])⟩ ?_ ?_
        · intro _
          simp (disch := omega) []
          exact Tl.same rfl (by simp) (by simp [mens_idf k1, mens_idf k2, mens_idf (Env.frL _)])
        · intro z x rest hx2 hl2 _
          have hdd : List.drop z.length (rows Ty.str.oc evs) = .sc (.string x) :: rows Ty.str.oc rest := by rw [rowsO_drop, ← hx2, drop_pre, rowsO_cons]
          have rE := hrE x
          have hr1 := Env.ocl (F z)
          have hlz := hFl z
          rw [hF]
          cases he : es.find? (sameE x) with
          | none =>
            rw [he, envA] at rE
            simp (disch := omega) [hdd]
            refine cR rE ?_
            simp (disch := omega) []
            exact Tl.same rfl (by simp) (by simp [mens_idf k1, mens_idf k2, mens_idf k3, mens_idf k4, mens_idf k5, mens_idf (Env.frL _)])
          | some e =>
            rw [he, envA, Env.cse] at rE
            have hf2 := Env.frL (F z ++ [e])
            rw [rows_append, rows_one, Env.oce] at hf2
            simp only
            simp (disch := omega) [hdd]
            refine cR rE ?_
            simp (disch := omega) [hr1]
            exact Tl.rn [(86, 500), (12, 12), (18, 18), (58, 58), (62, 62), (501, 501), (1001001, 1001001), (1001002, 1001002), (1001003, 1001003), (20, 20)] rfl (by simp [menB, idfree, idfree.idfreeL, k1, k2, k3, k4, k5, rows_append, rows_one, Env.oce, hf2])
      · generalize F evs = ev at *
        have hev := Env.frL ev
        have hevl := Env.ocl ev
        generalize wt q = wl at *
        have hG : ∀ l x, depsV ms (l ++ [x]) = match ms.find? (sameM x) with | some e => depsV ms l ++ [e] | none => depsV ms l := depsV_snoc ms
        have hGl := depsV_len ms
        have hG0 : depsV ms [] = [] := rfl
        have hrM := fun n => R32 ms n b.m b.mo
        have hwf := Ty.str.frL wl
        generalize depsV ms = G at *
        simp (disch := omega) []
        refine cO 92 rW ?_ (Ty.str.flo _)
        simp (disch := omega) []
        refine T.forR wl (fun _ _ => True) (fun z _ => [(4, .ro (rows Made.ty.cs ms) ms.length), (12, .ref 12 0), (20, .ref 20 0), (24, .sl 92 0 wl.length 1 false), (25, .sc (.int .i64 z.length))]) (fun z _ => [(12, [.sc (.string (bs [])), .em, .em, .em, .em]), (58, rows Ty.str.oc c.acts), (62, rows File.ty.oc pk), (500, rows Env.ty.oc ev), (501, rows Made.ty.oc (G z)), (92, rows Ty.str.oc wl), (20, [.sc (.string task), .sl 58 0 c.acts.length 1 false, .sl 62 0 pk.length 2 false, .sl 500 0 ev.length 2 false, .sl 501 0 (G z).length 3 false])]) ⟨trivial, Tl.same rfl (by simp [hG0]) (by simp [hG0, rows_nil, mens_idf k1, mens_idf k2, mens_idf hev, mens_idf hwf])⟩ ?_ ?_
        · intro _
          have h1 := Made.frL (G wl)
          have h2 := Made.ocl (G wl)
          simp (disch := omega) []
          refine T.on 400 ?_
          simp (disch := omega) [ex1, Job.oce, k1, k2, k6, k7, hev, hevl, h1, h2]
        · intro z x rest hx2 hl2 _
          have hdd : List.drop z.length (rows Ty.str.oc wl) = .sc (.string x) :: rows Ty.str.oc rest := by rw [rowsO_drop, ← hx2, drop_pre, rowsO_cons]
          have rM := hrM x
          have hr1 := Made.ocl (G z)
          have hr0 := Made.frL (G z)
          have hlz := hGl z
          rw [hG]
          cases he : ms.find? (sameM x) with
          | none =>
            rw [he, madeOA] at rM
            simp (disch := omega) [hdd]
            refine cR rM ?_
            simp (disch := omega) []
            exact Tl.same rfl (by simp) (by simp [mens_idf k1, mens_idf k2, mens_idf hev, mens_idf hwf, mens_idf hr0])
          | some m =>
            rw [he, madeOA, Made.oce] at rM
            have f1 := File.frL m.outs
            have f2 := File.ocl m.outs
            have f3 := File.ty.flo m.outs
            have hf2 := Made.frL (G z ++ [m])
            rw [rows_append, rows_one, Made.oce] at hf2
            simp only
            simp (disch := omega) [hdd]
            refine cR rM ?_ (hfl := by simpa [flt, flt.fltL] using f3)
            simp (disch := omega) [hr1]
            refine Tl.pk 113 [1001001] (rows Made.ty.oc (G z)) [.sc (.string m.task), .sl 1001001 0 m.outs.length 2 false, .sc (.string m.log)] (Made.ty.oc m) (by simp) (by simp [pkL, pk1, Made.oce, f1, f2]) fun h' e1 e2 => ?_
            exact Tl.rn [(113, 501), (12, 12), (58, 58), (62, 62), (500, 500), (92, 92), (20, 20)] rfl (by simp [e1, e2, menB, idfree, idfree.idfreeL, k1, k2, hev, hwf, rows_append, rows_one, Made.oce, hf2])
set_option maxRecDepth 100000
theorem R4 (code : List Int) : Ret Tryz.prog 4 [.ro (rows B code) code.length] (.sc (.bool (decide ((1048576 : Int) < code.length)))) [.un] := by
  refine Ret.go Tryz.func4 ?_
  simp (disch := omega) []
theorem R11 (xs : List ByteArray) (s : ByteArray) (hb : xs.length ≤ 1048577) : Ret Tryz.prog 11 [.ro (rows Ty.str.cs xs) xs.length, .sc (.string s)] (.sc (.bool (hasB xs s))) [.un, .un] := by
  refine Ret.go Tryz.func11 ?_
  simp (disch := omega) []
  refine T.forL xs (fun pre _ => ∀ y ∈ pre, eqS s y = false) (fun pre _ => [(0, .ro (rows Ty.str.cs xs) xs.length), (1, .sc (.string s)), (5, .sc (.int .i64 pre.length))]) (fun _ _ => []) (by simp) ?_ ?_
  · intro hJ
    have e : hasB xs s = false := List.any_eq_false.2 fun y hy => by simp [hJ y hy]
    simp (disch := omega) [e]
    refine T.on 400 ?_
    simp (disch := omega) []
  · intro q x r hx hl hJ
    have hd : List.drop q.length (rows Ty.str.cs xs) = .sc (.string x) :: rows Ty.str.cs r := by rw [rowsC_drop, ← hx, drop_pre, rowsC_cons]
    by_cases h : x.toList = s.toList
    · have e : hasB xs s = true := List.any_eq_true.2 ⟨x, by rw [← hx]; simp, by simp [eqS, h]⟩
      simp (disch := omega) [hd, h, e]
    · simp (disch := omega) [hd, h]
      intro y hy
      rcases hy with hy | rfl
      · exact hJ y hy
      · simp [eqS, h]
theorem R12 (xs : List File) (hb : xs.length ≤ 1048577) : Ret Tryz.prog 12 [.ro (rows File.ty.cs xs) xs.length] (.own (rows Ty.str.oc (pathsV xs)) (pathsV xs).length 1) [.un] := by
  have hA : ∀ l x, pathsV (l ++ [x]) = pathsV l ++ [x.path] := fun l x => by simp [pathsV]
  have hL : ∀ l, (pathsV l).length = l.length := fun l => by simp [pathsV]
  have h0 : pathsV [] = [] := rfl
  generalize pathsV = F at *
  refine Ret.go Tryz.func12 ?_
  simp (disch := omega) []
  refine T.forR xs (fun _ _ => True) (fun q _ => [(0, .ro (rows File.ty.cs xs) xs.length), (3, .sl 5 0 (F q).length 1 false), (4, .sc (.int .i64 q.length))]) (fun q _ => [(5, rows Ty.str.oc (F q))]) ⟨trivial, Tl.same rfl (by simp [h0]) (by simp [h0, rows_nil])⟩ ?_ ?_
  · intro _
    have h1 := rowsS_fr (F xs)
    have h2 := rowsS_len (F xs)
    simp (disch := omega) []
    refine T.on 400 ?_
    simp (disch := omega) [ex1, h1, h2]
  · intro q x r hx hl _
    have hd : List.drop (q.length * 2) (rows File.ty.cs xs) = .sc (.string x.path) :: .sc (.string x.text) :: rows File.ty.cs r := by rw [← hx]; exact rows_drop File.ty.csn q (x :: r)
    have hf := rowsS_fr (F q ++ [x.path])
    rw [rowsS_snoc] at hf
    have hr := rowsS_len (F q)
    have hq := hL q
    rw [hA]
    simp (disch := omega) [hd, hr]
    exact Tl.rn [(19, 5)] rfl (by simp [menB, idfree, rowsS_snoc, hf])
set_option maxHeartbeats 8000000 in
theorem R3 (code : List Int) (hx : Ty.byte.slice.ok code) : Ret Tryz.prog 3 [.ro (rows Ty.byte.cs code) code.length] (.sc (.bool true)) [.un] := by
  change Ret Tryz.prog 3 [.ro (rows B code) code.length] (.sc (.bool true)) [.un]
  have rb := R4 code
  have rD := R5 code hx
  have hS := jobDF_S hx
  generalize jobDF code = x at *
  have hJ := jd_JB hS hS.f
  have hts : (nmT x.p x.t).size ≤ 1048576 := by
    have := hS.pt
    rw [nmT, ByteArray.size_append, ByteArray.size_append]
    have e : (ByteArray.mk #[35]).size = 1 := rfl
    omega
  have hz : ∀ y ∈ x.w.rs, ∀ o ∈ y.on, o.size ≤ 1048576 := fun y hy o ho => ruleOns_size o ((hS.r.2 y hy).os o ho)
  have hus : ∀ y ∈ x.w.ps, ∀ z ∈ y.uses, z.size ≤ 1048576 := fun y hy z hz => Nat.le_trans ((hS.p.2 y hy).us z hz).1 (by decide)
  have hps : x.p.size ≤ 1048576 := Nat.le_trans hS.pt.2.1 (by decide)
  have hqt : ∀ q, parseT (nmT x.p x.t) = some q → q = (x.p, x.t) := fun q h => by rw [hS.pt.1] at h; exact (Option.some.inj h).symm
  have hWI : ∀ q, parseT (nmT x.p x.t) = some q → (wtI x q).length ≤ 1100000000000 ∧ Ret Tryz.prog 23 [.ro (rows Pack.ty.cs x.w.ps) x.w.ps.length, .ro (rows Rule.ty.cs x.w.rs) x.w.rs.length, .sc (.string q.1), .sc (.string q.2)] (.own (rows Ty.str.oc (wtI x q)) (wtI x q).length 1) [.un, .un, .un, .un] := fun q h => by
    rw [hqt q h]
    exact ⟨Nat.le_trans (wtI_len hS _) (by decide), R23 x.w.ps x.w.rs x.p x.t hps hJ.w (jd_uses hS) hus hJ.c hJ.r hJ.rl hz⟩
  have hWS : ∀ q, parseT (nmT x.p x.t) = some q → (wtI x q).length ≤ 1100000000000 ∧ Ret Tryz.prog 31 [.ro (rows Pack.ty.cs x.w.ps) x.w.ps.length, .ro (rows Rule.ty.cs x.w.rs) x.w.rs.length, .sc (.string q.1), .sc (.string q.2)] (.own (rows Ty.str.oc (wtI x q)) (wtI x q).length 1) [.un, .un, .un, .un] := fun q h => by
    rw [hqt q h, ← wtI_eq hS hS.pt.2.2.2]
    exact ⟨by rw [wtI_eq hS hS.pt.2.2.2]; exact Nat.le_trans (wtI_len hS _) (by decide), R31 x.w.ps x.w.rs x.p x.t hps (Nat.le_trans hS.pt.2.2.1 (by decide)) hJ.w (jd_uses hS) hus hJ.c hJ.r hJ.rl hz⟩
  have r1 := R6 (wtI x) x.w.ps x.w.rs x.w.fs x.w.es x.ms (nmT x.p x.t) hts hJ hWI
  have r2 := R7 (wtI x) x.w.ps x.w.rs x.w.fs x.w.es x.ms (nmT x.p x.t) hts hJ hWS
  have hfs2 := turn_small (ps := pathsV (x.w.fs.filter (pickB (ruleO x.w.rs x.t).ins))) hS.f
  have r3 := R6 (wtI x) x.w.ps x.w.rs _ x.w.es x.ms (nmT x.p x.t) hts (jd_JB hS hfs2) hWI
  change Ret Tryz.prog _ _ (.agg (Job.ty.oc (jobX x x.w.fs))) _ at r1 r2
  change Ret Tryz.prog _ _ (.agg (Job.ty.oc (jobX x _))) _ at r3
  rw [jobX_turn hS] at r3
  have hjo := jobX_ok hS hS.f
  have hjd := jobX_deps (x := x) x.w.fs
  generalize jobX x x.w.fs = j at *
  have rE := R8 j j hjo
  rw [jobEqR] at rE
  by_cases hbig : (1048576 : Int) < code.length
  · have hb : decide ((1048576 : Int) < code.length) = true := by simp [hbig]
    rw [hb] at rb
    refine Ret.go Tryz.func3 ?_
    simp (disch := omega) []
    refine cR rb ?_
    simp (disch := omega) []
  have hb : decide ((1048576 : Int) < code.length) = false := by simp [hbig]
  rw [hb] at rb
  have p1 := Pack.frL x.w.ps
  have p2 := Rule.frL x.w.rs
  have p3 := File.frL x.w.fs
  have p4 := Env.frL x.w.es
  have p5 := Made.frL x.ms
  have q1 := Pack.ty.flo x.w.ps
  have q2 := Rule.ty.flo x.w.rs
  have q3 := File.ty.flo x.w.fs
  have q4 := Env.ty.flo x.w.es
  have q5 := Made.ty.flo x.ms
  simp only [flt] at q1 q2 q3 q4 q5
  rw [Job.oce] at r1 r2 r3
  rw [Job.cse] at rE
  have jf : flt (.agg (Job.ty.oc j)) = true := Job.ty.flL j
  rw [Job.oce] at jf
  refine Ret.go Tryz.func3 ?_
  simp (disch := omega) []
  refine cR rb ?_
  simp (disch := omega) []
  refine cR rD ?_ (hfl := by simp [flt, flt.fltL, q1, q2, q3, q4, q5])
  simp (disch := omega) []
  refine callK.ro 35 rfl (by kernel_rfl) (by simp [Pack.roc8, Rule.roc8, File.roc8, Env.roc8, Made.roc8, roc_sc]) r1 jf rfl rfl ?_
  simp (disch := omega) []
  refine callK.ro 42 rfl (by kernel_rfl) (by simp [Pack.roc8, Rule.roc8, File.roc8, Env.roc8, Made.roc8, roc_sc]) r2 jf rfl rfl ?_
  simp (disch := omega) []
  refine cR rE ?_ (hys := by simp [roc_ag, shut, shut.shutL, rocS7, File.roc7, Env.roc7, Made.roc7, roc_sc])
  simp (disch := omega) []
  have rP := R9 (nmT x.p x.t) (by omega)
  rw [hS.pt.1, taskA] at rP
  refine cR rP ?_
  have rR := R10 x.w.rs x.t hJ.r hJ.rl
  have hf := ruleFl (ruleO x.w.rs x.t) (hasR x.w.rs x.t)
  have hin : (ruleO x.w.rs x.t).ins.length ≤ 2 ∧ ∀ y ∈ (ruleO x.w.rs x.t).ins, y.size ≤ 1048576 := ruleO_ok (Q := fun r => r.ins.length ≤ 2 ∧ ∀ y ∈ r.ins, y.size ≤ 1048576) (fun y hy => ⟨(hS.r.2 y hy).i, fun z hz => Nat.le_trans ((hS.r.2 y hy).is z hz) (by decide)⟩) ⟨by simp, by simp⟩
  generalize ruleO x.w.rs x.t = r at *
  rw [Rule.oce] at rR hf
  simp (disch := omega) []
  refine callK.ro 56 rfl (by kernel_rfl) (by simp [Rule.roc8, roc_sc]) rR hf rfl rfl ?_
  simp (disch := omega) []
  obtain ⟨PS, hPS⟩ : ∃ PS, PS = pathsV (x.w.fs.filter (pickB r.ins)) := ⟨_, rfl⟩
  rw [← hPS] at r3 hfs2
  have hPSl : PS.length ≤ 8 := by
    rw [hPS, pathsV, List.length_map]
    exact Nat.le_trans (List.length_filter_le ..) hS.f.1
  have hfl := hS.f.1
  have hfz := hS.f.2
  have tf : ∀ l : List File, idfree.idfreeL (rows File.ty.oc l) = true := File.frL
  have d1 := Ty.str.frL j.acts
  have d2 := File.frL j.ins
  have d3 := Env.frL j.envs
  have d4 := Made.frL j.deps
  have e1 := Ty.str.frL r.on
  have e2 := Ty.str.frL r.ins
  have e3 := Ty.str.frL r.envs
  refine T.forR x.w.fs (fun _ _ => True) (fun q _ => [(3, .sl 1000 0 x.w.ps.length 4 false), (4, .sl 1001 0 x.w.rs.length 5 false), (5, .sl 1002 0 x.w.fs.length 2 false), (6, .sl 1003 0 x.w.es.length 2 false), (7, .sl 1004 0 x.ms.length 3 false), (8, .sc (.string (nmT x.p x.t))), (9, .ref 9 0), (10, .ref 10 0), (14, .ref 14 0), (16, .sl 59 0 q.length 2 false), (17, .sc (.int .i64 q.length))]) (fun q rest => [(1000, rows Pack.ty.oc x.w.ps), (1001, rows Rule.ty.oc x.w.rs), (1002, rows File.ty.oc (q.map (turnF PS) ++ rest)), (1003, rows Env.ty.oc x.w.es), (1004, rows Made.ty.oc x.ms), (36001, rows Ty.str.oc j.acts), (36002, rows File.ty.oc j.ins), (36003, rows Env.ty.oc j.envs), (36004, rows Made.ty.oc j.deps), (9, [.sc (.string j.name), .sl 36001 0 j.acts.length 1 false, .sl 36002 0 j.ins.length 2 false, .sl 36003 0 j.envs.length 2 false, .sl 36004 0 j.deps.length 3 false]), (43001, rows Ty.str.oc j.acts), (43002, rows File.ty.oc j.ins), (43003, rows Env.ty.oc j.envs), (43004, rows Made.ty.oc j.deps), (10, [.sc (.string j.name), .sl 43001 0 j.acts.length 1 false, .sl 43002 0 j.ins.length 2 false, .sl 43003 0 j.envs.length 2 false, .sl 43004 0 j.deps.length 3 false]), (57001001, rows Ty.str.oc r.on), (57001002, rows Ty.str.oc r.ins), (57001003, rows Ty.str.oc r.envs), (14, [.sc (.string r.task), .sl 57001001 0 r.on.length 1 false, .sl 57001002 0 r.ins.length 1 false, .sl 57001003 0 r.envs.length 1 false, .sc (.bool r.keep)]), (59, rows File.ty.oc (q.map (turnF PS)))]) ⟨trivial, Tl.same rfl (by simp) (by simp [rows_nil, mens_idf p1, mens_idf p2, mens_idf p3, mens_idf p4, mens_idf p5, mens_idf d1, mens_idf d2, mens_idf d3, mens_idf d4, mens_idf e1, mens_idf e2, mens_idf e3])⟩ ?_ ?_
  · intro _
    have rr : ∀ h : Hp, h 59 = some (some (rows File.ty.oc (x.w.fs.map (turnF PS)))) → roc h 8 (.sl 59 0 x.w.fs.length 2 false) = some (.ro (rows File.ty.cs (x.w.fs.map (turnF PS))) x.w.fs.length) := fun h hb => by
      have := File.roc8 (xs := x.w.fs.map (turnF PS)) (lim := false) hb
      rwa [List.length_map] at this
    rw [List.length_map] at r3
    simp (disch := omega) []
    refine T.on 400 ?_
    simp (disch := omega) []
    refine T.textW 900 [([], []), ([], []), ([], []), ([], []), ([], []), ([], []), ([96001, 96002, 96003, 96004], []), ([], [96001, 96002, 96003, 96004]), ([], []), ([], []), ([], []), ([], []), ([], []), ([], []), ([], []), ([], []), ([], []), ([], [])] mixed (by kernel_rfl) (by kernel_rfl) ?_
    simp (disch := omega) []
    refine cW 95 r3 ?_ jf (hys := by simp [Pack.roc8, Rule.roc8, rr, Env.roc8, Made.roc8, roc_sc])
    simp (disch := omega) [merge_nil, hideH_nil]
    refine cW 0 rE ?_ (hys := by simp [roc_ag, shut, shut.shutL, rocS7, File.roc7, Env.roc7, Made.roc7, roc_sc])
    simp (disch := omega) [merge_nil, hideH_nil]
  · intro q y rest hxx hl2 _
    have hcur := turn_cur r.ins PS q (y :: rest)
    rw [hxx, ← hPS] at hcur
    have hcl : (q.map (turnF PS) ++ y :: rest).length = x.w.fs.length := by rw [← hxx]; simp
    have hcz : ∀ z ∈ q.map (turnF PS) ++ y :: rest, z.path.size ≤ 1048576 := fun z hz => by
      rcases List.mem_append.1 hz with hz | hz
      · obtain ⟨f, hf, rfl⟩ := List.mem_map.1 hz
        rw [turn_path]
        exact Nat.le_trans (hfz f (by rw [← hxx]; simp [hf])).1 (by decide)
      · exact Nat.le_trans (hfz z (by rw [← hxx]; simp only [List.mem_append]; exact .inr hz)).1 (by decide)
    have hm : q.map (turnF PS) ++ [turnF PS y] = (q ++ [y]).map (turnF PS) := by simp
    have hty : turnF PS y = if hasB PS y.path = true then y else ⟨y.path, (bs [116, 117, 114, 110, 101, 100])⟩ := rfl
    have ho2 := File.frL (q.map (turnF PS) ++ [turnF PS y])
    have hol : (q.map (turnF PS)).length = q.length := by simp
    rw [← hm]
    generalize turnF PS y = y2 at *
    generalize q.map (turnF PS) = q2 at *
    have hcr := File.ocl (q2 ++ y :: rest)
    rw [hcl] at hcr
    have hdr : List.drop (q.length * 2) (rows File.ty.oc (q2 ++ y :: rest)) = .sc (.string y.path) :: .sc (.string y.text) :: rows File.ty.oc rest := by rw [← hol]; exact rows_drop File.ty.ocn q2 (y :: rest)
    have hqr := File.ocl q2
    rw [hol] at hqr
    have rK := R13 (q2 ++ y :: rest) r.ins (by omega) (by omega) hcz hin.2
    rw [hcl] at rK
    have hkl : ((q2 ++ y :: rest).filter (pickB r.ins)).length ≤ 8 := Nat.le_trans (List.length_filter_le ..) (by omega)
    have rT := R12 ((q2 ++ y :: rest).filter (pickB r.ins)) (by omega)
    rw [hcur] at rT
    have rH := R11 PS y.path (by omega)
    generalize (q2 ++ y :: rest).filter (pickB r.ins) = pk at *
    have rc : ∀ h : Hp, h 1002 = some (some (rows File.ty.oc (q2 ++ y :: rest))) → roc h 8 (.sl 1002 0 x.w.fs.length 2 false) = some (.ro (rows File.ty.cs (q2 ++ y :: rest)) x.w.fs.length) := fun h hb => by
      have := File.roc8 (xs := q2 ++ y :: rest) (lim := false) hb
      rwa [hcl] at this
    simp (disch := omega) []
    refine T.textE [(3, [69]), (4, [70])] ?_ mixed
    simp (disch := omega) []
    refine cW 69 rK ?_ (File.ty.flo _) (hys := by simp [rc, rocS])
    simp (disch := omega) [merge_nil, hideH_nil]
    refine cW 70 rT ?_ (Ty.str.flo _) (hys := by simp [File.roc8])
    simp (disch := omega) [merge_nil, hideH_nil, hdr]
    refine cW 0 rH ?_ (hys := by simp [rocS, roc_sc])
    simp (disch := omega) [merge_nil, hideH_nil]
    cases hh : hasB PS y.path
    · rw [hh] at hty
      rw [if_neg (by simp)] at hty
      have hset := rowsF_set q2 rest y (bs [116, 117, 114, 110, 101, 100]) q.length hol
      rw [← hty] at hset
      have hdr2 : List.drop (q.length * 2) (rows File.ty.oc (q2 ++ y2 :: rest)) = .sc (.string y2.path) :: .sc (.string y2.text) :: rows File.ty.oc rest := by rw [← hol]; exact rows_drop File.ty.ocn q2 (y2 :: rest)
      simp (disch := omega) [hcr, hset, hdr2, hqr]
      exact Tl.rn [(1000, 1000), (1001, 1001), (1002, 1002), (1003, 1003), (1004, 1004), (36001, 36001), (36002, 36002), (36003, 36003), (36004, 36004), (9, 9), (43001, 43001), (43002, 43002), (43003, 43003), (43004, 43004), (10, 10), (57001001, 57001001), (57001002, 57001002), (57001003, 57001003), (14, 14), (88, 59)] rfl (by simp [menB, idfree, idfree.idfreeL, p1, p2, p4, p5, tf, d1, d2, d3, d4, e1, e2, e3, rows_append, rows_one, File.oce])
    · rw [hh, if_pos rfl] at hty
      subst hty
      simp (disch := omega) [hdr, hqr]
      exact Tl.rn [(1000, 1000), (1001, 1001), (1002, 1002), (1003, 1003), (1004, 1004), (36001, 36001), (36002, 36002), (36003, 36003), (36004, 36004), (9, 9), (43001, 43001), (43002, 43002), (43003, 43003), (43004, 43004), (10, 10), (57001001, 57001001), (57001002, 57001002), (57001003, 57001003), (14, 14), (88, 59)] rfl (by simp [menB, idfree, idfree.idfreeL, p1, p2, p4, p5, tf, d1, d2, d3, d4, e1, e2, e3, rows_append, rows_one, File.oce])
end Go.Proofs.YtchbcmenmlohfaaGreatDoor.Am
