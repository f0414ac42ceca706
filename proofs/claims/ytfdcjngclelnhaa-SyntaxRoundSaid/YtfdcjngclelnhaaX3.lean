/- Part of a proof. -/
import Derived.Test.YtfdcjngclelnhaaXS
set_option linter.unusedSectionVars false
set_option linter.unusedSimpArgs false
set_option linter.unusedVariables false
namespace Go.Proofs.Ytfdcjngclelnhaa
open Go Go.RowKit
set_option maxRecDepth 100000
set_option maxHeartbeats 4000000
noncomputable section
inductive t_number_V where
  | en (s0:B47)
  | eo (s0:B47) (es0:List D) (w0:Nat)
  | l0 (y0:Int) (y1:List UInt8) (y2:Int) (y3:Int) (y4:Int) (y5:List UInt8) (y6:Int) (y7:Nat)
  | l1 (y0:Int) (y1:List UInt8) (y2:Int) (y3:Int) (y4:Int) (y5:List UInt8) (y6:Int) (y7:Nat) (y8:List D) (y9:Nat)
def t_number_at:t_number_V → Pth × List AV × Heap
  | .en s0=>([],startT Try.f39 [.ptr (some (0,0))],[some (.cells 47 [.dat (.str (s0).c0),.dat (.int .i64 (s0).c1),.dat .nils] s0.ver)])
  | .eo s0 es0 w0=>([],startT Try.f39 [.ptr (some (0,0))],[some (.cells 47 [.dat (.str (s0).c0),.dat (.int .i64 (s0).c1),.own (.at 0 2 w0 34) es0] s0.ver)])
  | .l0 y0 y1 y2 y3 y4 y5 y6 y7=>([0,1,0,1,1,1,1,1],mkT 39 [(0,.ptr (some (0,0))),(3,.dat (.int .i64 y0)),(4,.dat (.str y1)),(5,.dat (.int .i64 y2)),(20,.dat (.int .i64 y3)),(21,.dat (.int .i64 y4))],[some (.cells 47 [.dat (.str y5),.dat (.int .i64 y6),.dat .nils] y7)])
  | .l1 y0 y1 y2 y3 y4 y5 y6 y7 y8 y9=>([0,1,0,1,1,1,1,1],mkT 39 [(0,.ptr (some (0,0))),(3,.dat (.int .i64 y0)),(4,.dat (.str y1)),(5,.dat (.int .i64 y2)),(20,.dat (.int .i64 y3)),(21,.dat (.int .i64 y4))],[some (.cells 47 [.dat (.str y5),.dat (.int .i64 y6),.own (.at 0 2 y7 34) y8] y9)])
def t_number_st (S:Fns) (r:Int × B47 → Prop) (l:t_number_V → Prop):t_number_V → Prop
  | .en s0=>bn (S.t_run_digit (B47.mk s0.c0 s0.c1 GC.n s0.ver)) fun x24=>gcas x24.2.c2 (cnd (decide (Int.ofNat x24.1.length > 18)) (bn (S.t_form (B47.mk x24.2.c0 x24.2.c1 GC.n x24.2.ver) s0.c1) fun x26=>gcas x26.2.c2 (r (x26.1,(⟨x26.2.c0,x26.2.c1,.n,x26.2.ver⟩:B47))) False fun x27 w27=>r (x26.1,(⟨x26.2.c0,x26.2.c1,(.o x27 w27),x26.2.ver⟩:B47))) (l (.l0 s0.c1 x24.1 0 (Int.ofNat x24.1.length) 0 x24.2.c0 x24.2.c1 x24.2.ver))) False fun x25 w25=>cnd (decide (Int.ofNat x24.1.length > 18)) (bn (S.t_form (B47.mk x24.2.c0 x24.2.c1 (GC.o x25 w25) x24.2.ver) s0.c1) fun x28=>gcas x28.2.c2 (r (x28.1,(⟨x28.2.c0,x28.2.c1,.n,x28.2.ver⟩:B47))) False fun x29 w29=>r (x28.1,(⟨x28.2.c0,x28.2.c1,(.o x29 w29),x28.2.ver⟩:B47))) (l (.l1 s0.c1 x24.1 0 (Int.ofNat x24.1.length) 0 x24.2.c0 x24.2.c1 w25 x25 x24.2.ver))
  | .eo s0 es0 w0=>bn (S.t_run_digit (B47.mk s0.c0 s0.c1 (GC.o es0 w0) s0.ver)) fun x30=>gcas x30.2.c2 (cnd (decide (Int.ofNat x30.1.length > 18)) (bn (S.t_form (B47.mk x30.2.c0 x30.2.c1 GC.n x30.2.ver) s0.c1) fun x32=>gcas x32.2.c2 (r (x32.1,(⟨x32.2.c0,x32.2.c1,.n,x32.2.ver⟩:B47))) False fun x33 w33=>r (x32.1,(⟨x32.2.c0,x32.2.c1,(.o x33 w33),x32.2.ver⟩:B47))) (l (.l0 s0.c1 x30.1 0 (Int.ofNat x30.1.length) 0 x30.2.c0 x30.2.c1 x30.2.ver))) False fun x31 w31=>cnd (decide (Int.ofNat x30.1.length > 18)) (bn (S.t_form (B47.mk x30.2.c0 x30.2.c1 (GC.o x31 w31) x30.2.ver) s0.c1) fun x34=>gcas x34.2.c2 (r (x34.1,(⟨x34.2.c0,x34.2.c1,.n,x34.2.ver⟩:B47))) False fun x35 w35=>r (x34.1,(⟨x34.2.c0,x34.2.c1,(.o x35 w35),x34.2.ver⟩:B47))) (l (.l1 s0.c1 x30.1 0 (Int.ofNat x30.1.length) 0 x30.2.c0 x30.2.c1 w31 x31 x30.2.ver))
  | .l0 y0 y1 y2 y3 y4 y5 y6 y7=>cnd (decide (y4 < y3)) (cnd (decide (y4 < 0)) False (bn (y1[y4.toNat]?) fun x36=>l (.l0 y0 y1 (IntKind.i64.wrap (IntKind.i64.wrap (10 * y2) + IntKind.i64.wrap (IntKind.u8.wrap (Int.ofNat x36.toNat - 48)))) y3 (IntKind.i64.wrap (y4 + 1)) y5 y6 y7))) (bn (S.t_put (B47.mk y5 y6 GC.n y7) (.agg [.int .i64 2,.str y1,.int .i64 y2,.int .i64 y0])) fun x37=>gcas x37.2.c2 (r (x37.1,(⟨x37.2.c0,x37.2.c1,.n,x37.2.ver⟩:B47))) False fun x38 w38=>r (x37.1,(⟨x37.2.c0,x37.2.c1,(.o x38 w38),x37.2.ver⟩:B47)))
  | .l1 y0 y1 y2 y3 y4 y5 y6 y7 y8 y9=>cnd (decide (y4 < y3)) (cnd (decide (y4 < 0)) False (bn (y1[y4.toNat]?) fun x39=>l (.l1 y0 y1 (IntKind.i64.wrap (IntKind.i64.wrap (10 * y2) + IntKind.i64.wrap (IntKind.u8.wrap (Int.ofNat x39.toNat - 48)))) y3 (IntKind.i64.wrap (y4 + 1)) y5 y6 y7 y8 y9))) (bn (S.t_put (B47.mk y5 y6 (GC.o y8 y7) y9) (.agg [.int .i64 2,.str y1,.int .i64 y2,.int .i64 y0])) fun x40=>gcas x40.2.c2 (r (x40.1,(⟨x40.2.c0,x40.2.c1,.n,x40.2.ver⟩:B47))) False fun x41 w41=>r (x40.1,(⟨x40.2.c0,x40.2.c1,(.o x41 w41),x40.2.ver⟩:B47)))
theorem t_number_k (S:Fns):KOk Try.prog [true] 39 Try.f39 (enAll S) [([0,1,0,1,1,1,1,1],[(1,2),(6,14),(22,17)],false)] 1 t_number_at enc22 (t_number_st S):=by intro K g v; cases v <;> kernel_rfl
theorem t_number_m {S:Fns}:Mono (t_number_st S):=fun _ _ _ hl v=>by cases v <;> (dsimp only [t_number_st]; repeat' first | exact id | exact hl _ | apply imp_an | apply imp_cnd | (refine imp_bn fun _=>?_) | apply imp_fl | (refine imp_gcas ?_ ?_ fun _ _=>?_))
def t_number_raw (S:Fns) (n:Nat) (s0:B47):Option (Int × B47):=gcas s0.c2 (rawN enc22 (t_number_st S) n (.en s0)) (none) fun es0 w0=>rawN enc22 (t_number_st S) n (.eo s0 es0 w0)
theorem t_number_ok {S:Fns} (hS:FnsOk S) (n:Nat):EntryOk Try.prog (e22 39 (t_number_raw S n)):=e22_ok fun ⟨_,_,g0,_⟩ r hr=>by
  rcases g0 with _ | _ | ⟨_,_⟩
  · exact gen_e prog_ok Try.func39 rfl hS (t_number_k S) t_number_m rfl rfl hr
  · exact nomatch (show (none:Option (Int × B47)) = some r from hr)
  · exact gen_e prog_ok Try.func39 rfl hS (t_number_k S) t_number_m rfl rfl hr
inductive s_query_V where
  | e (s0:B82)
  | l0 (y0:B82) (y1:D)
  | l1 (y0:B82) (y1:Int) (y2:List D) (y3:Nat)
def s_query_at:s_query_V → Pth × List AV × Heap
  | .e s0=>([],startT Try.f44 [.ptr (some (0,0))],[b82 s0 0])
  | .l0 y0 y1=>([0,0,1,1,1,1],mkT 40 [(0,.ptr (some (0,0))),(2,.ptr (some (1,0))),(4,.ptr (some (3,0)))],[some (o82 y0 0),some (.cells 54 [.dat (.int .i64 0),.dat (.bool false),.dat .nils,.dat .nils,.dat .nils,.dat .nils,.dat .nils,.dat .nils,.dat (.int .i64 0),.dat .nils] 0),some (.cells 54 [.dat (.int .i64 0),.dat (.bool false),.dat .nils,.dat .nils,.dat .nils,.dat .nils,.dat .nils,.dat .nils,.dat (.int .i64 0),.dat .nils] 10),some (sbx 54 y1 10)])
  | .l1 y0 y1 y2 y3=>([0,0,1,1,1,1],mkT 40 [(0,.ptr (some (0,0))),(2,.ptr (some (1,0))),(4,.ptr (some (3,0)))],[some (o82 y0 0),some (.cells 54 [.dat (.int .i64 0),.dat (.bool false),.dat .nils,.dat .nils,.dat .nils,.dat .nils,.dat .nils,.dat .nils,.dat (.int .i64 0),.dat .nils] 0),some (.cells 54 [.dat (.int .i64 0),.dat (.bool false),.dat .nils,.dat .nils,.dat .nils,.dat .nils,.dat .nils,.dat .nils,.dat (.int .i64 0),.dat .nils] 10),some (.cells 54 [.dat (.int .i64 y1),.dat (.bool false),.dat .nils,.dat .nils,.dat .nils,.dat .nils,.dat .nils,.dat .nils,.dat (.int .i64 (-1)),.own .full y2] y3)])
def s_query_st (S:Fns) (r:D × B82 → Prop) (l:s_query_V → Prop):s_query_V → Prop
  | .e s0=>bn (S.s_enter s0) fun x32=>cnd (!x32.1) (r ((.agg [.int .i64 0,.bool false,.nils,.nils,.nils,.nils,.nils,.nils,.int .i64 0,.nils]),x32.2)) (bn (S.s_part x32.2) fun x33=>an (okG 54 x33.1) (fl x33.1 [2,3,4,5,6,7,9] (l (.l0 x33.2 x33.1))))
  | .l0 y0 y1=>cnd (y0.c4 == 0) (bn (S.s_word y0 [117,110,105,111,110]) fun x34=>cnd x34.1 (bn (S.s_word x34.2 [97,108,108]) fun x35=>cnd x35.1 (bn (S.s_part x35.2) fun x36=>an (okG 54 x36.1) (l (.l1 x36.2 3 [G 54 y1,G 54 x36.1] 20))) (bn (S.s_part x35.2) fun x37=>an (okG 54 x37.1) (l (.l1 x37.2 2 [G 54 y1,G 54 x37.1] 20)))) (bn (S.s_word x34.2 [101,120,99,101,112,116]) fun x38=>cnd x38.1 (bn (S.s_part x38.2) fun x39=>an (okG 54 x39.1) (l (.l1 x39.2 4 [G 54 y1,G 54 x39.1] 20))) (bn (S.s_word x38.2 [105,110,116,101,114,115,101,99,116]) fun x40=>cnd x40.1 (bn (S.s_part x40.2) fun x41=>an (okG 54 x41.1) (l (.l1 x41.2 5 [G 54 y1,G 54 x41.1] 20))) (bn (S.s_leave x40.2) fun x42=>fl y1 [2,3,4,5,6,7,9] (r ((G 54 y1),x42)))))) (bn (S.s_leave y0) fun x43=>fl y1 [2,3,4,5,6,7,9] (r ((G 54 y1),x43)))
  | .l1 y0 y1 y2 y3=>cnd (y0.c4 == 0) (bn (S.s_word y0 [117,110,105,111,110]) fun x44=>cnd x44.1 (bn (S.s_word x44.2 [97,108,108]) fun x45=>cnd x45.1 (bn (S.s_part x45.2) fun x46=>an (okG 54 x46.1) (l (.l1 x46.2 3 [.agg [.int .i64 y1,.bool false,.nils,.nils,.nils,.nils,.nils,.nils,.int .i64 (-1),D.slice y2],G 54 x46.1] (y3 + 10)))) (bn (S.s_part x45.2) fun x47=>an (okG 54 x47.1) (l (.l1 x47.2 2 [.agg [.int .i64 y1,.bool false,.nils,.nils,.nils,.nils,.nils,.nils,.int .i64 (-1),D.slice y2],G 54 x47.1] (y3 + 10))))) (bn (S.s_word x44.2 [101,120,99,101,112,116]) fun x48=>cnd x48.1 (bn (S.s_part x48.2) fun x49=>an (okG 54 x49.1) (l (.l1 x49.2 4 [.agg [.int .i64 y1,.bool false,.nils,.nils,.nils,.nils,.nils,.nils,.int .i64 (-1),D.slice y2],G 54 x49.1] (y3 + 10)))) (bn (S.s_word x48.2 [105,110,116,101,114,115,101,99,116]) fun x50=>cnd x50.1 (bn (S.s_part x50.2) fun x51=>an (okG 54 x51.1) (l (.l1 x51.2 5 [.agg [.int .i64 y1,.bool false,.nils,.nils,.nils,.nils,.nils,.nils,.int .i64 (-1),D.slice y2],G 54 x51.1] (y3 + 10)))) (bn (S.s_leave x50.2) fun x52=>r ((.agg [.int .i64 y1,.bool false,.nils,.nils,.nils,.nils,.nils,.nils,.int .i64 (-1),D.slice y2]),x52))))) (bn (S.s_leave y0) fun x53=>r ((.agg [.int .i64 y1,.bool false,.nils,.nils,.nils,.nils,.nils,.nils,.int .i64 (-1),D.slice y2]),x53))
theorem s_query_k (S:Fns):KOk Try.prog [] 44 Try.f44 (enAll S) [([0,0,1,1,1,1],[(1,1),(3,1),(5,35)],false)] 1 s_query_at enc0 (s_query_st S):=by intro K g v; cases v <;> kernel_rfl
theorem s_query_m {S:Fns}:Mono (s_query_st S):=fun _ _ _ hl v=>by cases v <;> (dsimp only [s_query_st]; repeat' first | exact id | exact hl _ | apply imp_an | apply imp_cnd | (refine imp_bn fun _=>?_) | apply imp_fl | (refine imp_gcas ?_ ?_ fun _ _=>?_))
def s_query_raw (S:Fns) (n:Nat) (s0:B82):Option (D × B82):=rawN enc0 (s_query_st S) n (.e s0)
theorem s_query_ok {S:Fns} (hS:FnsOk S) (n:Nat):EntryOk Try.prog (e0 44 54 (s_query_raw S n)):=e0_ok fun _ _ hr=>gen_e prog_ok Try.func44 rfl hS (s_query_k S) s_query_m rfl rfl hr
inductive t_Scan_V where
  | e (a0:List UInt8)
  | l0 (y0:List UInt8) (y1:List UInt8) (y2:Int) (y3:Nat)
  | l1 (y0:List UInt8) (y1:List UInt8) (y2:Int) (y3:Nat) (y4:List D) (y5:Nat)
def t_Scan_at:t_Scan_V → Pth × List AV × Heap
  | .e a0=>([],startT Try.f13 [.dat (.str a0)],[])
  | .l0 y0 y1 y2 y3=>([0,0,1,1,1],mkT 48 [(0,.dat (.str y0)),(5,.ptr (some (0,0)))],[some (.cells 47 [.dat (.str y1),.dat (.int .i64 y2),.dat .nils] y3)])
  | .l1 y0 y1 y2 y3 y4 y5=>([0,0,1,1,1],mkT 48 [(0,.dat (.str y0)),(5,.ptr (some (0,0)))],[some (.cells 47 [.dat (.str y1),.dat (.int .i64 y2),.own (.at 0 2 y3 34) y4] y5)])
def t_Scan_st (S:Fns) (r:D × Int × Int → Prop) (l:t_Scan_V → Prop):t_Scan_V → Prop
  | .e a0=>cnd (decide (Int.ofNat a0.length > 20000)) (r (D.nils,0,8)) (l (.l0 a0 a0 0 0))
  | .l0 y0 y1 y2 y3=>bn (S.t_pass (B47.mk y1 y2 GC.n y3)) fun x30=>gcas x30.c2 (cnd (x30.c1 == Int.ofNat y0.length) (bn (S.t_put (B47.mk x30.c0 x30.c1 GC.n x30.ver) (.agg [.int .i64 0,.str [],.int .i64 0,.int .i64 (Int.ofNat y0.length)])) fun x32=>gcas x32.2.c2 (cnd (x32.1 != 0) (r (D.nils,x32.2.c1,x32.1)) (r (D.nils,0,0))) False fun x33 w33=>cnd (x32.1 != 0) (r (D.nils,x32.2.c1,x32.1)) (r ((.slice x33),0,0))) (bn (S.t_next (B47.mk x30.c0 x30.c1 GC.n x30.ver)) fun x34=>gcas x34.2.c2 (cnd (x34.1 != 0) (r (D.nils,x34.2.c1,x34.1)) (l (.l0 y0 x34.2.c0 x34.2.c1 x34.2.ver))) False fun x35 w35=>cnd (x34.1 != 0) (r (D.nils,x34.2.c1,x34.1)) (l (.l1 y0 x34.2.c0 x34.2.c1 w35 x35 x34.2.ver)))) False fun x31 w31=>cnd (x30.c1 == Int.ofNat y0.length) (bn (S.t_put (B47.mk x30.c0 x30.c1 (GC.o x31 w31) x30.ver) (.agg [.int .i64 0,.str [],.int .i64 0,.int .i64 (Int.ofNat y0.length)])) fun x36=>gcas x36.2.c2 (cnd (x36.1 != 0) (r (D.nils,x36.2.c1,x36.1)) (r (D.nils,0,0))) False fun x37 w37=>cnd (x36.1 != 0) (r (D.nils,x36.2.c1,x36.1)) (r ((.slice x37),0,0))) (bn (S.t_next (B47.mk x30.c0 x30.c1 (GC.o x31 w31) x30.ver)) fun x38=>gcas x38.2.c2 (cnd (x38.1 != 0) (r (D.nils,x38.2.c1,x38.1)) (l (.l0 y0 x38.2.c0 x38.2.c1 x38.2.ver))) False fun x39 w39=>cnd (x38.1 != 0) (r (D.nils,x38.2.c1,x38.1)) (l (.l1 y0 x38.2.c0 x38.2.c1 w39 x39 x38.2.ver)))
  | .l1 y0 y1 y2 y3 y4 y5=>bn (S.t_pass (B47.mk y1 y2 (GC.o y4 y3) y5)) fun x40=>gcas x40.c2 (cnd (x40.c1 == Int.ofNat y0.length) (bn (S.t_put (B47.mk x40.c0 x40.c1 GC.n x40.ver) (.agg [.int .i64 0,.str [],.int .i64 0,.int .i64 (Int.ofNat y0.length)])) fun x42=>gcas x42.2.c2 (cnd (x42.1 != 0) (r (D.nils,x42.2.c1,x42.1)) (r (D.nils,0,0))) False fun x43 w43=>cnd (x42.1 != 0) (r (D.nils,x42.2.c1,x42.1)) (r ((.slice x43),0,0))) (bn (S.t_next (B47.mk x40.c0 x40.c1 GC.n x40.ver)) fun x44=>gcas x44.2.c2 (cnd (x44.1 != 0) (r (D.nils,x44.2.c1,x44.1)) (l (.l0 y0 x44.2.c0 x44.2.c1 x44.2.ver))) False fun x45 w45=>cnd (x44.1 != 0) (r (D.nils,x44.2.c1,x44.1)) (l (.l1 y0 x44.2.c0 x44.2.c1 w45 x45 x44.2.ver)))) False fun x41 w41=>cnd (x40.c1 == Int.ofNat y0.length) (bn (S.t_put (B47.mk x40.c0 x40.c1 (GC.o x41 w41) x40.ver) (.agg [.int .i64 0,.str [],.int .i64 0,.int .i64 (Int.ofNat y0.length)])) fun x46=>gcas x46.2.c2 (cnd (x46.1 != 0) (r (D.nils,x46.2.c1,x46.1)) (r (D.nils,0,0))) False fun x47 w47=>cnd (x46.1 != 0) (r (D.nils,x46.2.c1,x46.1)) (r ((.slice x47),0,0))) (bn (S.t_next (B47.mk x40.c0 x40.c1 (GC.o x41 w41) x40.ver)) fun x48=>gcas x48.2.c2 (cnd (x48.1 != 0) (r (D.nils,x48.2.c1,x48.1)) (l (.l0 y0 x48.2.c0 x48.2.c1 x48.2.ver))) False fun x49 w49=>cnd (x48.1 != 0) (r (D.nils,x48.2.c1,x48.1)) (l (.l1 y0 x48.2.c0 x48.2.c1 w49 x49 x48.2.ver)))
theorem t_Scan_k (S:Fns):KOk Try.prog [] 13 Try.f13 (enAll S) [([0,0,1,1,1],[(1,4),(6,42)],false)] 0 t_Scan_at enc26 (t_Scan_st S):=by intro K g v; cases v <;> kernel_rfl
theorem t_Scan_m {S:Fns}:Mono (t_Scan_st S):=fun _ _ _ hl v=>by cases v <;> (dsimp only [t_Scan_st]; repeat' first | exact id | exact hl _ | apply imp_an | apply imp_cnd | (refine imp_bn fun _=>?_) | apply imp_fl | (refine imp_gcas ?_ ?_ fun _ _=>?_))
def t_Scan_raw (S:Fns) (n:Nat) (a0:List UInt8):Option (D × Int × Int):=rawN enc26 (t_Scan_st S) n (.e a0)
theorem t_Scan_ok {S:Fns} (hS:FnsOk S) (n:Nat):EntryOk Try.prog (e26 13 (t_Scan_raw S n)):=e26_ok fun _ _ hr=>gen_e prog_ok Try.func13 rfl hS (t_Scan_k S) t_Scan_m rfl rfl hr
inductive t_run_name_V where
  | en (s0:B47)
  | eo (s0:B47) (es0:List D) (w0:Nat)
  | l0 (y0:Int) (y1:List UInt8) (y2:Int) (y3:Nat)
  | l1 (y0:Int) (y1:List UInt8) (y2:Int) (y3:Nat) (y4:List D) (y5:Nat)
def t_run_name_at:t_run_name_V → Pth × List AV × Heap
  | .en s0=>([],startT Try.f60 [.ptr (some (0,0)),.func (.func 61) [] []],[some (.cells 47 [.dat (.str (s0).c0),.dat (.int .i64 (s0).c1),.dat .nils] s0.ver)])
  | .eo s0 es0 w0=>([],startT Try.f60 [.ptr (some (0,0)),.func (.func 61) [] []],[some (.cells 47 [.dat (.str (s0).c0),.dat (.int .i64 (s0).c1),.own (.at 0 2 w0 34) es0] s0.ver)])
  | .l0 y0 y1 y2 y3=>([0,0,1,1],mkT 50 [(0,.ptr (some (0,0))),(1,.func (.func 61) [] []),(5,.dat (.int .i64 y0))],[some (.cells 47 [.dat (.str y1),.dat (.int .i64 y2),.dat .nils] y3)])
  | .l1 y0 y1 y2 y3 y4 y5=>([0,0,1,1],mkT 50 [(0,.ptr (some (0,0))),(1,.func (.func 61) [] []),(5,.dat (.int .i64 y0))],[some (.cells 47 [.dat (.str y1),.dat (.int .i64 y2),.own (.at 0 2 y3 34) y4] y5)])
def t_run_name_st (S:Fns) (r:List UInt8 × B47 → Prop) (l:t_run_name_V → Prop):t_run_name_V → Prop
  | .en s0=>l (.l0 s0.c1 s0.c0 s0.c1 s0.ver)
  | .eo s0 es0 w0=>l (.l1 s0.c1 s0.c0 s0.c1 w0 es0 s0.ver)
  | .l0 y0 y1 y2 y3=>cnd (decide (y2 < Int.ofNat y1.length)) (cnd (decide (y2 < 0)) False (bn (y1[y2.toNat]?) fun x8=>bn (S.t_name1 (Int.ofNat x8.toNat)) fun x9=>cnd x9 (l (.l0 y0 y1 (IntKind.i64.wrap (y2 + 1)) (y3 + 1))) (an (decide (0 ≤ y2) && decide (y2 ≤ Int.ofNat y1.length)) (an (decide (0 ≤ y0) && decide (y0 ≤ Int.ofNat y2.toNat)) (r ((List.take (y2.toNat - y0.toNat) (List.drop y0.toNat y1)),(⟨y1,y2,.n,y3⟩:B47))))))) (an (decide (0 ≤ y2) && decide (y2 ≤ Int.ofNat y1.length)) (an (decide (0 ≤ y0) && decide (y0 ≤ Int.ofNat y2.toNat)) (r ((List.take (y2.toNat - y0.toNat) (List.drop y0.toNat y1)),(⟨y1,y2,.n,y3⟩:B47)))))
  | .l1 y0 y1 y2 y3 y4 y5=>cnd (decide (y2 < Int.ofNat y1.length)) (cnd (decide (y2 < 0)) False (bn (y1[y2.toNat]?) fun x10=>bn (S.t_name1 (Int.ofNat x10.toNat)) fun x11=>cnd x11 (l (.l1 y0 y1 (IntKind.i64.wrap (y2 + 1)) y3 y4 (y5 + 1))) (an (decide (0 ≤ y2) && decide (y2 ≤ Int.ofNat y1.length)) (an (decide (0 ≤ y0) && decide (y0 ≤ Int.ofNat y2.toNat)) (r ((List.take (y2.toNat - y0.toNat) (List.drop y0.toNat y1)),(⟨y1,y2,(.o y4 y3),y5⟩:B47))))))) (an (decide (0 ≤ y2) && decide (y2 ≤ Int.ofNat y1.length)) (an (decide (0 ≤ y0) && decide (y0 ≤ Int.ofNat y2.toNat)) (r ((List.take (y2.toNat - y0.toNat) (List.drop y0.toNat y1)),(⟨y1,y2,(.o y4 y3),y5⟩:B47)))))
theorem t_run_name_k (S:Fns):KOk Try.prog [true] 60 Try.f60 (enAll S) [([0,0,1,1],[(2,3),(6,44)],false)] 1 t_run_name_at enc25 (t_run_name_st S):=by intro K g v; cases v <;> kernel_rfl
theorem t_run_name_m {S:Fns}:Mono (t_run_name_st S):=fun _ _ _ hl v=>by cases v <;> (dsimp only [t_run_name_st]; repeat' first | exact id | exact hl _ | apply imp_an | apply imp_cnd | (refine imp_bn fun _=>?_) | apply imp_fl | (refine imp_gcas ?_ ?_ fun _ _=>?_))
def t_run_name_raw (S:Fns) (n:Nat) (s0:B47):Option (List UInt8 × B47):=gcas s0.c2 (rawN enc25 (t_run_name_st S) n (.en s0)) (none) fun es0 w0=>rawN enc25 (t_run_name_st S) n (.eo s0 es0 w0)
theorem t_run_name_ok {S:Fns} (hS:FnsOk S) (n:Nat):EntryOk Try.prog (e25 60 61 (t_run_name_raw S n)):=e25_ok fun ⟨_,_,g0,_⟩ r hr=>by
  rcases g0 with _ | _ | ⟨_,_⟩
  · exact gen_e prog_ok Try.func60 rfl hS (t_run_name_k S) t_run_name_m rfl rfl hr
  · exact nomatch (show (none:Option (List UInt8 × B47)) = some r from hr)
  · exact gen_e prog_ok Try.func60 rfl hS (t_run_name_k S) t_run_name_m rfl rfl hr
inductive r_SameQuery_V where
  | e (a0:D) (a1:D)
  | l0 (y0:Int) (y1:D) (y2:D)
  | l1 (y0:Int) (y1:D) (y2:D)
def r_SameQuery_at:r_SameQuery_V → Pth × List AV × Heap
  | .e a0 a1=>([],startT Try.f56 [.dat (G 54 a0),.dat (G 54 a1)],[])
  | .l0 y0 y1 y2=>([0,1,0,1,1],mkT 149 [(2,.ptr (some (0,0))),(3,.ptr (some (1,0))),(5,.dat (.int .i64 y0))],[some (sbx 54 y1 0),some (sbx 54 y2 0)])
  | .l1 y0 y1 y2=>([0,1,0,1,1,1],mkT 149 [(2,.ptr (some (0,0))),(3,.ptr (some (1,0))),(6,.dat (.int .i64 y0))],[some (sbx 54 y1 0),some (sbx 54 y2 0)])
def r_SameQuery_st (S:Fns) (r:Bool → Prop) (l:r_SameQuery_V → Prop):r_SameQuery_V → Prop
  | .e a0 a1=>cnd (cI a0 0 != cI a1 0) (r false) (cnd (!cB a0 1 == cB a1 1) (r false) (cnd (cI a0 8 != cI a1 8) (r false) (bn (asL (cel a0 2)) fun x54=>bn (asL (cel a1 2)) fun x55=>cnd (Int.ofNat x54.length != Int.ofNat x55.length) (r false) (bn (asL (cel a0 7)) fun x56=>bn (asL (cel a1 7)) fun x57=>cnd (Int.ofNat x56.length != Int.ofNat x57.length) (r false) (l (.l0 0 a0 a1))))))
  | .l0 y0 y1 y2=>bn (asL (cel y1 2)) fun x58=>cnd (decide (y0 < Int.ofNat x58.length)) (bn (asL (cel y1 2)) fun x59=>bn (atD x59 y0) fun x60=>an (okG 107 x60) (bn (asL (cel y2 2)) fun x61=>bn (atD x61 y0) fun x62=>an (okG 107 x62) (cnd (!cS x60 6 == cS x62 6) (r false) (bn (asL (cel y1 2)) fun x63=>bn (atD x63 y0) fun x64=>an (okG 107 x64) (bn (asL (cel y2 2)) fun x65=>bn (atD x65 y0) fun x66=>an (okG 107 x66) (an (okG 38 (G 38 x64)) (an (okG 38 (G 38 x66)) (bn (S.r_SameExpr (G 38 x64) (G 38 x66)) fun x67=>cnd (!x67) (r false) (l (.l0 (IntKind.i64.wrap (y0 + 1)) y1 y2)))))))))) (l (.l1 0 y1 y2))
  | .l1 y0 y1 y2=>bn (asL (cel y1 7)) fun x68=>cnd (decide (y0 < Int.ofNat x68.length)) (bn (asL (cel y1 7)) fun x69=>bn (atD x69 y0) fun x70=>an (okG 109 x70) (bn (asL (cel y2 7)) fun x71=>bn (atD x71 y0) fun x72=>an (okG 109 x72) (cnd (!cB x70 6 == cB x72 6) (r false) (bn (asL (cel y1 7)) fun x73=>bn (atD x73 y0) fun x74=>an (okG 109 x74) (bn (asL (cel y2 7)) fun x75=>bn (atD x75 y0) fun x76=>an (okG 109 x76) (an (okG 38 (G 38 x74)) (an (okG 38 (G 38 x76)) (bn (S.r_SameExpr (G 38 x74) (G 38 x76)) fun x77=>cnd (!x77) (r false) (l (.l1 (IntKind.i64.wrap (y0 + 1)) y1 y2)))))))))) (bn (S.r_SameFroms (cel y1 3) (cel y2 3)) fun x78=>cnd x78 (bn (S.r_SameExprs (cel y1 4) (cel y2 4)) fun x79=>cnd x79 (bn (S.r_SameExprs (cel y1 5) (cel y2 5)) fun x80=>cnd x80 (bn (S.r_SameExprs (cel y1 6) (cel y2 6)) fun x81=>cnd x81 (bn (S.r_SameQueries (cel y1 9) (cel y2 9)) fun x82=>r x82) (r false)) (r false)) (r false)) (r false))
theorem r_SameQuery_k (S:Fns):KOk Try.prog [] 56 Try.f56 (enAll S) [([0,1,0,1,1],[(0,2),(4,1),(6,143)],false),([0,1,0,1,1,1],[(0,2),(4,2),(7,142)],false)] 0 r_SameQuery_at enc18 (r_SameQuery_st S):=by intro K g v; cases v <;> kernel_rfl
theorem r_SameQuery_m {S:Fns}:Mono (r_SameQuery_st S):=fun _ _ _ hl v=>by cases v <;> (dsimp only [r_SameQuery_st]; repeat' first | exact id | exact hl _ | apply imp_an | apply imp_cnd | (refine imp_bn fun _=>?_) | apply imp_fl | (refine imp_gcas ?_ ?_ fun _ _=>?_))
def r_SameQuery_raw (S:Fns) (n:Nat) (a0:D) (a1:D):Option (Bool):=rawN enc18 (r_SameQuery_st S) n (.e a0 a1)
theorem r_SameQuery_ok {S:Fns} (hS:FnsOk S) (n:Nat):EntryOk Try.prog (e18 56 54 54 (r_SameQuery_raw S n)):=e18_ok fun _ _ _ hr=>gen_e prog_ok Try.func56 rfl hS (r_SameQuery_k S) r_SameQuery_m rfl rfl hr
inductive b_WriteByte_V where
  | en (s0:B92) (a1:Int)
  | em (s0:B92) (a1:Int)
  | eo (s0:B92) (a1:Int) (es0:List D) (w0:Nat)
def b_WriteByte_at:b_WriteByte_V → Pth × List AV × Heap
  | .en s0 a1=>([],startT Try.f63 [.ptr (some (0,0)),.dat (.int .u8 a1)],[some (.cells 92 [.ptr none,.dat .nils] s0.ver)])
  | .em s0 a1=>([],startT Try.f63 [.ptr (some (0,0)),.dat (.int .u8 a1)],[some (.cells 92 [.ptr (some (0,0)),.dat .nils] s0.ver)])
  | .eo s0 a1 es0 w0=>([],startT Try.f63 [.ptr (some (0,0)),.dat (.int .u8 a1)],[some (.cells 92 [.ptr (some (0,0)),.own (.at 0 1 w0 5) es0] s0.ver)])
def b_WriteByte_st (S:Fns) (r:Unit × B92 → Prop) (l:b_WriteByte_V → Prop):b_WriteByte_V → Prop
  | .en s0 a1=>bn (S.b_copyCheck (B92.mk GC.n s0.ver)) fun x6=>gcas x6.c1 False (r ((),(⟨(.o [.int .u8 a1] x6.ver),x6.ver + 1⟩:B92))) fun x7 w7=>an (w7.beq w7) (an (x7.length.beq x7.length) (cnd x7.isEmpty False (an (sized 1 x7) (an (roomOk (x7.length + 1) 1) (an ((x7.length + 1).beq (x7 ++ [D.int .u8 a1]).length) (r ((),(⟨(.o (x7 ++ [D.int .u8 a1]) x6.ver),x6.ver + 1⟩:B92))))))))
  | .em s0 a1=>bn (S.b_copyCheck (B92.mk GC.m s0.ver)) fun x8=>gcas x8.c1 False (r ((),(⟨(.o [.int .u8 a1] x8.ver),x8.ver + 1⟩:B92))) fun x9 w9=>an (w9.beq w9) (an (x9.length.beq x9.length) (cnd x9.isEmpty False (an (sized 1 x9) (an (roomOk (x9.length + 1) 1) (an ((x9.length + 1).beq (x9 ++ [D.int .u8 a1]).length) (r ((),(⟨(.o (x9 ++ [D.int .u8 a1]) x8.ver),x8.ver + 1⟩:B92))))))))
  | .eo s0 a1 es0 w0=>bn (S.b_copyCheck (B92.mk (GC.o es0 w0) s0.ver)) fun x10=>gcas x10.c1 False (r ((),(⟨(.o [.int .u8 a1] x10.ver),x10.ver + 1⟩:B92))) fun x11 w11=>an (w11.beq w11) (an (x11.length.beq x11.length) (cnd x11.isEmpty False (an (sized 1 x11) (an (roomOk (x11.length + 1) 1) (an ((x11.length + 1).beq (x11 ++ [D.int .u8 a1]).length) (r ((),(⟨(.o (x11 ++ [D.int .u8 a1]) x10.ver),x10.ver + 1⟩:B92))))))))
theorem b_WriteByte_k (S:Fns):KOk Try.prog [true] 63 Try.f63 (enAll S) [] 1 b_WriteByte_at enc30 (b_WriteByte_st S):=by intro K g v; cases v <;> kernel_rfl
def b_WriteByte_raw (S:Fns) (n:Nat) (s0:B92) (a1:Int):Option (Unit × B92):=gcas s0.c1 (rawN enc30 (b_WriteByte_st S) n (.en s0 a1)) (rawN enc30 (b_WriteByte_st S) n (.em s0 a1)) fun es0 w0=>rawN enc30 (b_WriteByte_st S) n (.eo s0 a1 es0 w0)
theorem b_WriteByte_ok {S:Fns} (hS:FnsOk S) (n:Nat):EntryOk Try.prog (e30 63 (b_WriteByte_raw S n)):=e30_ok fun ⟨g0,_⟩ _ r hr=>by
  rcases g0 with _ | _ | ⟨_,_⟩
  · exact gen_e prog_ok Try.func63 rfl hS (b_WriteByte_k S) (fun _ _ _ _ v=>by cases v <;> exact id) rfl rfl hr
  · exact gen_e prog_ok Try.func63 rfl hS (b_WriteByte_k S) (fun _ _ _ _ v=>by cases v <;> exact id) rfl rfl hr
  · exact gen_e prog_ok Try.func63 rfl hS (b_WriteByte_k S) (fun _ _ _ _ v=>by cases v <;> exact id) rfl rfl hr
inductive s_prim_V where
  | e (s0:B82)
def s_prim_at:s_prim_V → Pth × List AV × Heap
  | .e s0=>([],startT Try.f117 [.ptr (some (0,0))],[b82 s0 0])
def s_prim_st (S:Fns) (r:D × B82 → Prop) (l:s_prim_V → Prop):s_prim_V → Prop
  | .e s0=>cnd (s0.c4 != 0) (r ((.agg [.int .i64 0,.int .i64 0,.str [],.str [],.nils,.nils]),s0)) (bn (S.s_now s0) fun x15=>an (okG 34 x15.1) (cnd (cI x15.1 0 == 2) (bn (S.s_next x15.2) fun x16=>r ((.agg [.int .i64 3,.int .i64 (cI x15.1 2),.str [],.str [],.nils,.nils]),x16)) (cnd (cI x15.1 0 == 3) (bn (S.s_next x15.2) fun x17=>r ((.agg [.int .i64 4,.int .i64 0,.str (cS x15.1 1),.str [],.nils,.nils]),x17)) (bn (S.s_word x15.2 [110,117,108,108]) fun x18=>cnd x18.1 (r ((.agg [.int .i64 1,.int .i64 0,.str [],.str [],.nils,.nils]),x18.2)) (bn (S.s_word x18.2 [116,114,117,101]) fun x19=>cnd x19.1 (r ((.agg [.int .i64 2,.int .i64 1,.str [],.str [],.nils,.nils]),x19.2)) (bn (S.s_word x19.2 [102,97,108,115,101]) fun x20=>cnd x20.1 (r ((.agg [.int .i64 2,.int .i64 0,.str [],.str [],.nils,.nils]),x20.2)) (bn (S.s_mark x20.2 [58]) fun x21=>cnd x21.1 (bn (S.s_name x21.2) fun x22=>r ((.agg [.int .i64 6,.int .i64 0,.str x22.1,.str [],.nils,.nils]),x22.2)) (bn (S.s_word x21.2 [99,97,115,101]) fun x23=>cnd x23.1 (bn (S.s_cases x23.2) fun x24=>an (okG 38 x24.1) (fl x24.1 [4,5] (r ((G 38 x24.1),x24.2)))) (bn (S.s_word x23.2 [101,120,105,115,116,115]) fun x25=>cnd x25.1 (bn (S.s_bracketed x25.2) fun x26=>an (okG 54 x26.1) (r ((.agg [.int .i64 12,.int .i64 0,.str [],.str [],.nils,D.slice [G 54 x26.1]]),x26.2))) (bn (S.s_mark x25.2 [40]) fun x27=>cnd x27.1 (bn (S.s_round x27.2) fun x28=>an (okG 38 x28.1) (fl x28.1 [4,5] (r ((G 38 x28.1),x28.2)))) (bn (S.s_column x27.2) fun x29=>an (okG 38 x29.1) (fl x29.1 [4,5] (r ((G 38 x29.1),x29.2))))))))))))))
theorem s_prim_k (S:Fns):KOk Try.prog [] 117 Try.f117 (enAll S) [] 1 s_prim_at enc0 (s_prim_st S):=by intro K g v; cases v <;> kernel_rfl
def s_prim_raw (S:Fns) (n:Nat) (s0:B82):Option (D × B82):=rawN enc0 (s_prim_st S) n (.e s0)
theorem s_prim_ok {S:Fns} (hS:FnsOk S) (n:Nat):EntryOk Try.prog (e0 117 38 (s_prim_raw S n)):=e0_ok fun _ _ hr=>gen_e prog_ok Try.func117 rfl hS (s_prim_k S) (fun _ _ _ _ v=>by cases v <;> exact id) rfl rfl hr
inductive s_list_item_V where
  | e (s0:B82)
  | l0 (y0:List D) (y1:B82)
  | l1 (y0:List D) (y1:B82) (y2:Nat)
def s_list_item_at:s_list_item_V → Pth × List AV × Heap
  | .e s0=>([],startT Try.f85 [.ptr (some (0,0)),.func (.func 86) [.ptr (some (0,0))] []],[b82 s0 0])
  | .l0 y0 y1=>([0,0,1,1],mkT 17 [(0,.ptr (some (0,0))),(1,.func (.func 86) [.ptr (some (0,0))] []),(5,.own .full y0)],[some (o82 y1 0)])
  | .l1 y0 y1 y2=>([0,0,1,1],mkT 17 [(0,.ptr (some (0,0))),(1,.func (.func 86) [.ptr (some (0,0))] []),(5,.own (.tip 1) y0)],[some (o82 y1 0),some (.tip 107 y2 7)])
def s_list_item_st (S:Fns) (r:D × B82 → Prop) (l:s_list_item_V → Prop):s_list_item_V → Prop
  | .e s0=>bn (S.s_item s0) fun x5=>an (okG 107 x5.1) (l (.l0 [G 107 x5.1] x5.2))
  | .l0 y0 y1=>bn (S.s_mark y1 [44]) fun x6=>cnd x6.1 (bn (S.s_item x6.2) fun x7=>an (okG 107 x7.1) (fl x7.1 [4,5] (an (sized 7 y0) (an (roomOk (y0.length + 1) 112) (l (.l1 (y0 ++ [G 107 x7.1]) x7.2 (y0.length + 1))))))) (r ((.slice y0),x6.2))
  | .l1 y0 y1 y2=>bn (S.s_mark y1 [44]) fun x8=>cnd x8.1 (bn (S.s_item x8.2) fun x9=>an (okG 107 x9.1) (fl x9.1 [4,5] (an (y2 == y0.length) (an (roomOk (y2 + 1) 112) (l (.l1 (y0 ++ [G 107 x9.1]) x9.2 (y2 + 1))))))) (r ((.slice y0),x8.2))
theorem s_list_item_k (S:Fns):KOk Try.prog [] 85 Try.f85 (enAll S) [([0,0,1,1],[(2,3),(6,11)],false)] 1 s_list_item_at enc15 (s_list_item_st S):=by intro K g v; cases v <;> kernel_rfl
theorem s_list_item_m {S:Fns}:Mono (s_list_item_st S):=fun _ _ _ hl v=>by cases v <;> (dsimp only [s_list_item_st]; repeat' first | exact id | exact hl _ | apply imp_an | apply imp_cnd | (refine imp_bn fun _=>?_) | apply imp_fl | (refine imp_gcas ?_ ?_ fun _ _=>?_))
def s_list_item_raw (S:Fns) (n:Nat) (s0:B82):Option (D × B82):=rawN enc15 (s_list_item_st S) n (.e s0)
theorem s_list_item_ok {S:Fns} (hS:FnsOk S) (n:Nat):EntryOk Try.prog (e15 85 86 (s_list_item_raw S n)):=e15_ok fun _ _ hr=>gen_e prog_ok Try.func85 rfl hS (s_list_item_k S) s_list_item_m rfl rfl hr
inductive r_SameFroms_V where
  | e (a0:D) (a1:D)
  | l0 (y0:D) (y1:D) (y2:Int)
def r_SameFroms_at:r_SameFroms_V → Pth × List AV × Heap
  | .e a0 a1=>([],startT Try.f76 [.dat a0,.dat a1],[])
  | .l0 y0 y1 y2=>([0,1,0,1,1],mkT 77 [(0,.dat y0),(1,.dat y1),(5,.dat (.int .i64 y2))],[])
def r_SameFroms_st (S:Fns) (r:Bool → Prop) (l:r_SameFroms_V → Prop):r_SameFroms_V → Prop
  | .e a0 a1=>bn (asL a0) fun x18=>bn (asL a1) fun x19=>cnd (Int.ofNat x18.length != Int.ofNat x19.length) (r false) (l (.l0 a0 a1 0))
  | .l0 y0 y1 y2=>bn (asL y0) fun x20=>cnd (decide (y2 < Int.ofNat x20.length)) (bn (asL y0) fun x21=>bn (atD x21 y2) fun x22=>an (okG 65 x22) (bn (asL y1) fun x23=>bn (atD x23 y2) fun x24=>an (okG 65 x24) (fl x22 [4,5,6] (fl x24 [4,5,6] (cnd (cI x22 0 != cI x24 0) (r false) (cnd (!cS x22 1 == cS x24 1) (r false) (cnd (!cB x22 2 == cB x24 2) (r false) (cnd (!cS x22 3 == cS x24 3) (r false) (bn (S.r_SameQueries (cel x22 4) (cel x24 4)) fun x25=>cnd (!x25) (r false) (bn (S.r_SameFroms (cel x22 5) (cel x24 5)) fun x26=>cnd (!x26) (r false) (bn (S.r_SameExprs (cel x22 6) (cel x24 6)) fun x27=>cnd (!x27) (r false) (l (.l0 y0 y1 (IntKind.i64.wrap (y2 + 1))))))))))))))) (r true)
theorem r_SameFroms_k (S:Fns):KOk Try.prog [] 76 Try.f76 (enAll S) [([0,1,0,1,1],[(2,3),(6,71)],false)] 0 r_SameFroms_at enc19 (r_SameFroms_st S):=by intro K g v; cases v <;> kernel_rfl
theorem r_SameFroms_m {S:Fns}:Mono (r_SameFroms_st S):=fun _ _ _ hl v=>by cases v <;> (dsimp only [r_SameFroms_st]; repeat' first | exact id | exact hl _ | apply imp_an | apply imp_cnd | (refine imp_bn fun _=>?_) | apply imp_fl | (refine imp_gcas ?_ ?_ fun _ _=>?_))
def r_SameFroms_raw (S:Fns) (n:Nat) (a0:D) (a1:D):Option (Bool):=rawN enc19 (r_SameFroms_st S) n (.e a0 a1)
theorem r_SameFroms_ok {S:Fns} (hS:FnsOk S) (n:Nat):EntryOk Try.prog (e19 76 (r_SameFroms_raw S n)):=e19_ok fun _ _ _ hr=>gen_e prog_ok Try.func76 rfl hS (r_SameFroms_k S) r_SameFroms_m rfl rfl hr
inductive s_column_V where
  | e (s0:B82)
def s_column_at:s_column_V → Pth × List AV × Heap
  | .e s0=>([],startT Try.f120 [.ptr (some (0,0))],[b82 s0 0])
def s_column_st (S:Fns) (r:D × B82 → Prop) (l:s_column_V → Prop):s_column_V → Prop
  | .e s0=>bn (S.s_name s0) fun x13=>bn (S.s_gathers x13.1) fun x14=>cnd x14 (bn (S.s_mark x13.2 [40]) fun x15=>cnd x15.1 (cnd (!x13.1 == [99,111,117,110,116]) (bn (S.s_expr x15.2) fun x16=>an (okG 38 x16.1) (bn (S.s_need x16.2 [41]) fun x17=>r ((.agg [.int .i64 15,.int .i64 0,.str x13.1,.str [],D.slice [G 38 x16.1],.nils]),x17))) (bn (S.s_mark x15.2 [42]) fun x18=>cnd (!x18.1) (bn (S.s_expr x18.2) fun x19=>an (okG 38 x19.1) (bn (S.s_need x19.2 [41]) fun x20=>r ((.agg [.int .i64 15,.int .i64 0,.str x13.1,.str [],D.slice [G 38 x19.1],.nils]),x20))) (bn (S.s_need x18.2 [41]) fun x21=>r ((.agg [.int .i64 15,.int .i64 0,.str x13.1,.str [],.nils,.nils]),x21)))) (bn (S.s_mark x15.2 [46]) fun x22=>cnd x22.1 (bn (S.s_name x22.2) fun x23=>r ((.agg [.int .i64 5,.int .i64 0,.str x23.1,.str x13.1,.nils,.nils]),x23.2)) (r ((.agg [.int .i64 5,.int .i64 0,.str x13.1,.str [],.nils,.nils]),x22.2)))) (bn (S.s_mark x13.2 [46]) fun x24=>cnd x24.1 (bn (S.s_name x24.2) fun x25=>r ((.agg [.int .i64 5,.int .i64 0,.str x25.1,.str x13.1,.nils,.nils]),x25.2)) (r ((.agg [.int .i64 5,.int .i64 0,.str x13.1,.str [],.nils,.nils]),x24.2)))
theorem s_column_k (S:Fns):KOk Try.prog [] 120 Try.f120 (enAll S) [] 1 s_column_at enc0 (s_column_st S):=by intro K g v; cases v <;> kernel_rfl
def s_column_raw (S:Fns) (n:Nat) (s0:B82):Option (D × B82):=rawN enc0 (s_column_st S) n (.e s0)
theorem s_column_ok {S:Fns} (hS:FnsOk S) (n:Nat):EntryOk Try.prog (e0 120 38 (s_column_raw S n)):=e0_ok fun _ _ hr=>gen_e prog_ok Try.func120 rfl hS (s_column_k S) (fun _ _ _ _ v=>by cases v <;> exact id) rfl rfl hr
inductive s_readQ_V where
  | e (a0:List UInt8) (a1:Int)
def s_readQ_at:s_readQ_V → Pth × List AV × Heap
  | .e a0 a1=>([],startT Try.f42 [.dat (.str a0),.dat (.int .i64 a1),.func (.func 43) [] []],[])
def s_readQ_st (S:Fns) (r:D × Int × Int → Prop) (l:s_readQ_V → Prop):s_readQ_V → Prop
  | .e a0 a1=>bn (S.t_Scan a0) fun x4=>cnd (x4.2.2 != 0) (r ((.agg [.int .i64 0,.bool false,.nils,.nils,.nils,.nils,.nils,.nils,.int .i64 0,.nils]),x4.2.1,x4.2.2)) (an x4.1.flat (bn (S.s_Query1 (B82.mk x4.1 0 a1 0 0)) fun x5=>an (okG 54 x5.1) (fl x5.1 [2,3,4,5,6,7,9] (bn (S.s_now x5.2) fun x6=>an (okG 34 x6.1) (cnd (cI x6.1 0 != 0) (bn (S.s_fail x6.2 10) fun x7=>cnd (x7.c4 != 0) (r ((.agg [.int .i64 0,.bool false,.nils,.nils,.nils,.nils,.nils,.nils,.int .i64 0,.nils]),x7.c3,x7.c4)) (fl x5.1 [2,3,4,5,6,7,9] (r ((G 54 x5.1),0,0)))) (cnd (x6.2.c4 != 0) (r ((.agg [.int .i64 0,.bool false,.nils,.nils,.nils,.nils,.nils,.nils,.int .i64 0,.nils]),x6.2.c3,x6.2.c4)) (fl x5.1 [2,3,4,5,6,7,9] (r ((G 54 x5.1),0,0)))))))))
theorem s_readQ_k (S:Fns):KOk Try.prog [] 42 Try.f42 (enAll S) [] 0 s_readQ_at enc16 (s_readQ_st S):=by intro K g v; cases v <;> kernel_rfl
def s_readQ_raw (S:Fns) (n:Nat) (a0:List UInt8) (a1:Int):Option (D × Int × Int):=rawN enc16 (s_readQ_st S) n (.e a0 a1)
theorem s_readQ_ok {S:Fns} (hS:FnsOk S) (n:Nat):EntryOk Try.prog (e16 42 43 54 (s_readQ_raw S n)):=e16_ok fun _ _ _ hr=>gen_e prog_ok Try.func42 rfl hS (s_readQ_k S) (fun _ _ _ _ v=>by cases v <;> exact id) rfl rfl hr
inductive b_Len_V where
  | en (s0:B92)
  | em (s0:B92)
  | eo (s0:B92) (es0:List D) (w0:Nat)
def b_Len_at:b_Len_V → Pth × List AV × Heap
  | .en s0=>([],startT Try.f64 [.ptr (some (0,0))],[some (.cells 92 [.ptr none,.dat .nils] s0.ver)])
  | .em s0=>([],startT Try.f64 [.ptr (some (0,0))],[some (.cells 92 [.ptr (some (0,0)),.dat .nils] s0.ver)])
  | .eo s0 es0 w0=>([],startT Try.f64 [.ptr (some (0,0))],[some (.cells 92 [.ptr (some (0,0)),.own (.at 0 1 w0 5) es0] s0.ver)])
def b_Len_st (S:Fns) (r:Int × B92 → Prop) (l:b_Len_V → Prop):b_Len_V → Prop
  | .en s0=>r (0,(⟨.n,s0.ver⟩:B92))
  | .em s0=>r (0,(⟨.m,s0.ver⟩:B92))
  | .eo s0 es0 w0=>r ((Int.ofNat es0.length),(⟨(.o es0 w0),s0.ver⟩:B92))
theorem b_Len_k (S:Fns):KOk Try.prog [true] 64 Try.f64 (enAll S) [] 1 b_Len_at enc31 (b_Len_st S):=by intro K g v; cases v <;> kernel_rfl
def b_Len_raw (S:Fns) (n:Nat) (s0:B92):Option (Int × B92):=gcas s0.c1 (rawN enc31 (b_Len_st S) n (.en s0)) (rawN enc31 (b_Len_st S) n (.em s0)) fun es0 w0=>rawN enc31 (b_Len_st S) n (.eo s0 es0 w0)
theorem b_Len_ok {S:Fns} (hS:FnsOk S) (n:Nat):EntryOk Try.prog (e31 64 (b_Len_raw S n)):=e31_ok fun ⟨g0,_⟩ r hr=>by
  rcases g0 with _ | _ | ⟨_,_⟩
  · exact gen_e prog_ok Try.func64 rfl hS (b_Len_k S) (fun _ _ _ _ v=>by cases v <;> exact id) rfl rfl hr
  · exact gen_e prog_ok Try.func64 rfl hS (b_Len_k S) (fun _ _ _ _ v=>by cases v <;> exact id) rfl rfl hr
  · exact gen_e prog_ok Try.func64 rfl hS (b_Len_k S) (fun _ _ _ _ v=>by cases v <;> exact id) rfl rfl hr
inductive s_single_V where
  | e (s0:B82)
def s_single_at:s_single_V → Pth × List AV × Heap
  | .e s0=>([],startT Try.f102 [.ptr (some (0,0))],[b82 s0 0])
def s_single_st (S:Fns) (r:D × B82 → Prop) (l:s_single_V → Prop):s_single_V → Prop
  | .e s0=>bn (S.s_mark s0 [40]) fun x9=>cnd x9.1 (bn (S.s_query x9.2) fun x10=>an (okG 54 x10.1) (fl x10.1 [2,3,4,5,6,7,9] (bn (S.s_need x10.2 [41]) fun x11=>bn (S.s_must x11 [97,115]) fun x12=>bn (S.s_name x12) fun x13=>r ((.agg [.int .i64 2,.str [],.bool false,.str x13.1,D.slice [G 54 x10.1],.nils,.nils]),x13.2)))) (bn (S.s_name x9.2) fun x14=>bn (S.s_word x14.2 [118,105,115,105,98,108,101]) fun x15=>bn (S.s_word x15.2 [97,115]) fun x16=>cnd x16.1 (bn (S.s_name x16.2) fun x17=>r ((.agg [.int .i64 1,.str x14.1,.bool x15.1,.str x17.1,.nils,.nils,.nils]),x17.2)) (r ((.agg [.int .i64 1,.str x14.1,.bool x15.1,.str x14.1,.nils,.nils,.nils]),x16.2)))
theorem s_single_k (S:Fns):KOk Try.prog [] 102 Try.f102 (enAll S) [] 1 s_single_at enc0 (s_single_st S):=by intro K g v; cases v <;> kernel_rfl
def s_single_raw (S:Fns) (n:Nat) (s0:B82):Option (D × B82):=rawN enc0 (s_single_st S) n (.e s0)
theorem s_single_ok {S:Fns} (hS:FnsOk S) (n:Nat):EntryOk Try.prog (e0 102 65 (s_single_raw S n)):=e0_ok fun _ _ hr=>gen_e prog_ok Try.func102 rfl hS (s_single_k S) (fun _ _ _ _ v=>by cases v <;> exact id) rfl rfl hr
inductive s_round_V where
  | e (s0:B82)
def s_round_at:s_round_V → Pth × List AV × Heap
  | .e s0=>([],startT Try.f119 [.ptr (some (0,0))],[b82 s0 0])
def s_round_st (S:Fns) (r:D × B82 → Prop) (l:s_round_V → Prop):s_round_V → Prop
  | .e s0=>bn (S.s_sees s0 1 [115,101,108,101,99,116]) fun x5=>cnd x5.1 (bn (S.s_query x5.2) fun x6=>an (okG 54 x6.1) (bn (S.s_need x6.2 [41]) fun x7=>r ((.agg [.int .i64 14,.int .i64 0,.str [],.str [],.nils,D.slice [G 54 x6.1]]),x7))) (bn (S.s_expr x5.2) fun x8=>an (okG 38 x8.1) (fl x8.1 [4,5] (bn (S.s_need x8.2 [41]) fun x9=>fl x8.1 [4,5] (r ((G 38 x8.1),x9)))))
theorem s_round_k (S:Fns):KOk Try.prog [] 119 Try.f119 (enAll S) [] 1 s_round_at enc0 (s_round_st S):=by intro K g v; cases v <;> kernel_rfl
def s_round_raw (S:Fns) (n:Nat) (s0:B82):Option (D × B82):=rawN enc0 (s_round_st S) n (.e s0)
theorem s_round_ok {S:Fns} (hS:FnsOk S) (n:Nat):EntryOk Try.prog (e0 119 38 (s_round_raw S n)):=e0_ok fun _ _ hr=>gen_e prog_ok Try.func119 rfl hS (s_round_k S) (fun _ _ _ _ v=>by cases v <;> exact id) rfl rfl hr
inductive r_SameExpr_V where
  | e (a0:D) (a1:D)
def r_SameExpr_at:r_SameExpr_V → Pth × List AV × Heap
  | .e a0 a1=>([],startT Try.f16 [.dat (G 38 a0),.dat (G 38 a1)],[])
def r_SameExpr_st (S:Fns) (r:Bool → Prop) (l:r_SameExpr_V → Prop):r_SameExpr_V → Prop
  | .e a0 a1=>cnd (cI a0 0 == cI a1 0) (cnd (cI a0 1 == cI a1 1) (cnd (cS a0 2 == cS a1 2) (cnd (cS a0 3 == cS a1 3) (bn (S.r_SameExprs (cel a0 4) (cel a1 4)) fun x2=>cnd x2 (bn (S.r_SameQueries (cel a0 5) (cel a1 5)) fun x3=>r x3) (r false)) (r false)) (r false)) (r false)) (r false)
theorem r_SameExpr_k (S:Fns):KOk Try.prog [] 16 Try.f16 (enAll S) [] 0 r_SameExpr_at enc18 (r_SameExpr_st S):=by intro K g v; cases v <;> kernel_rfl
def r_SameExpr_raw (S:Fns) (n:Nat) (a0:D) (a1:D):Option (Bool):=rawN enc18 (r_SameExpr_st S) n (.e a0 a1)
theorem r_SameExpr_ok {S:Fns} (hS:FnsOk S) (n:Nat):EntryOk Try.prog (e18 16 38 38 (r_SameExpr_raw S n)):=e18_ok fun _ _ _ hr=>gen_e prog_ok Try.func16 rfl hS (r_SameExpr_k S) (fun _ _ _ _ v=>by cases v <;> exact id) rfl rfl hr
inductive s_expr_V where
  | e (s0:B82)
def s_expr_at:s_expr_V → Pth × List AV × Heap
  | .e s0=>([],startT Try.f27 [.ptr (some (0,0))],[b82 s0 0])
def s_expr_st (S:Fns) (r:D × B82 → Prop) (l:s_expr_V → Prop):s_expr_V → Prop
  | .e s0=>bn (S.s_enter s0) fun x3=>cnd (!x3.1) (r ((.agg [.int .i64 0,.int .i64 0,.str [],.str [],.nils,.nils]),x3.2)) (bn (S.s_left_or x3.2 (.slice [.str [111,114]])) fun x4=>an (okG 38 x4.1) (fl x4.1 [4,5] (bn (S.s_leave x4.2) fun x5=>fl x4.1 [4,5] (r ((G 38 x4.1),x5)))))
theorem s_expr_k (S:Fns):KOk Try.prog [] 27 Try.f27 (enAll S) [] 1 s_expr_at enc0 (s_expr_st S):=by intro K g v; cases v <;> kernel_rfl
def s_expr_raw (S:Fns) (n:Nat) (s0:B82):Option (D × B82):=rawN enc0 (s_expr_st S) n (.e s0)
theorem s_expr_ok {S:Fns} (hS:FnsOk S) (n:Nat):EntryOk Try.prog (e0 27 38 (s_expr_raw S n)):=e0_ok fun _ _ hr=>gen_e prog_ok Try.func27 rfl hS (s_expr_k S) (fun _ _ _ _ v=>by cases v <;> exact id) rfl rfl hr
inductive s_enter_V where
  | e (s0:B82)
def s_enter_at:s_enter_V → Pth × List AV × Heap
  | .e s0=>([],startT Try.f50 [.ptr (some (0,0))],[b82 s0 0])
def s_enter_st (S:Fns) (r:Bool × B82 → Prop) (l:s_enter_V → Prop):s_enter_V → Prop
  | .e s0=>cnd (decide (IntKind.i64.wrap (s0.c2 + 1) > 40)) (bn (S.s_fail (B82.mk s0.c0 s0.c1 (IntKind.i64.wrap (s0.c2 + 1)) s0.c3 s0.c4) 9) fun x1=>r ((x1.c4 == 0),x1)) (r ((s0.c4 == 0),(B82.mk s0.c0 s0.c1 (IntKind.i64.wrap (s0.c2 + 1)) s0.c3 s0.c4)))
theorem s_enter_k (S:Fns):KOk Try.prog [] 50 Try.f50 (enAll S) [] 1 s_enter_at enc6 (s_enter_st S):=by intro K g v; cases v <;> kernel_rfl
def s_enter_raw (S:Fns) (n:Nat) (s0:B82):Option (Bool × B82):=rawN enc6 (s_enter_st S) n (.e s0)
theorem s_enter_ok {S:Fns} (hS:FnsOk S) (n:Nat):EntryOk Try.prog (e6 50 (s_enter_raw S n)):=e6_ok fun _ _ hr=>gen_e prog_ok Try.func50 rfl hS (s_enter_k S) (fun _ _ _ _ v=>by cases v <;> exact id) rfl rfl hr
inductive t_letter_V where
  | e (a0:Int)
def t_letter_at:t_letter_V → Pth × List AV × Heap
  | .e a0=>([],startT Try.f36 [.dat (.int .u8 a0)],[])
def t_letter_st (S:Fns) (r:Bool → Prop) (l:t_letter_V → Prop):t_letter_V → Prop
  | .e a0=>cnd (decide (a0 ≥ 97)) (cnd (decide (a0 ≤ 122)) (r true) (cnd (decide (a0 ≥ 65)) (cnd (decide (a0 ≤ 90)) (r true) (r (a0 == 95))) (r (a0 == 95)))) (cnd (decide (a0 ≥ 65)) (cnd (decide (a0 ≤ 90)) (r true) (r (a0 == 95))) (r (a0 == 95)))
theorem t_letter_k (S:Fns):KOk Try.prog [] 36 Try.f36 (enAll S) [] 0 t_letter_at enc20 (t_letter_st S):=by intro K g v; cases v <;> kernel_rfl
def t_letter_raw (S:Fns) (n:Nat) (a0:Int):Option (Bool):=rawN enc20 (t_letter_st S) n (.e a0)
theorem t_letter_ok {S:Fns} (hS:FnsOk S) (n:Nat):EntryOk Try.prog (e20 36 (t_letter_raw S n)):=e20_ok fun _ _ hr=>gen_e prog_ok Try.func36 rfl hS (t_letter_k S) (fun _ _ _ _ v=>by cases v <;> exact id) rfl rfl hr
inductive s_name_V where
  | e (s0:B82)
def s_name_at:s_name_V → Pth × List AV × Heap
  | .e s0=>([],startT Try.f93 [.ptr (some (0,0))],[b82 s0 0])
def s_name_st (S:Fns) (r:List UInt8 × B82 → Prop) (l:s_name_V → Prop):s_name_V → Prop
  | .e s0=>bn (S.s_named s0) fun x4=>cnd (!x4.1) (bn (S.s_fail x4.2 10) fun x5=>r ([],x5)) (bn (S.s_now x4.2) fun x6=>an (okG 34 x6.1) (bn (S.s_next x6.2) fun x7=>r ((cS x6.1 1),x7)))
theorem s_name_k (S:Fns):KOk Try.prog [] 93 Try.f93 (enAll S) [] 1 s_name_at enc7 (s_name_st S):=by intro K g v; cases v <;> kernel_rfl
def s_name_raw (S:Fns) (n:Nat) (s0:B82):Option (List UInt8 × B82):=rawN enc7 (s_name_st S) n (.e s0)
theorem s_name_ok {S:Fns} (hS:FnsOk S) (n:Nat):EntryOk Try.prog (e7 93 (s_name_raw S n)):=e7_ok fun _ _ hr=>gen_e prog_ok Try.func93 rfl hS (s_name_k S) (fun _ _ _ _ v=>by cases v <;> exact id) rfl rfl hr
inductive s_word_V where
  | e (s0:B82) (a1:List UInt8)
def s_word_at:s_word_V → Pth × List AV × Heap
  | .e s0 a1=>([],startT Try.f54 [.ptr (some (0,0)),.dat (.str a1)],[b82 s0 0])
def s_word_st (S:Fns) (r:Bool × B82 → Prop) (l:s_word_V → Prop):s_word_V → Prop
  | .e s0 a1=>bn (S.s_sees s0 1 a1) fun x2=>cnd x2.1 (bn (S.s_next x2.2) fun x3=>r (x2.1,x3)) (r (x2.1,x2.2))
theorem s_word_k (S:Fns):KOk Try.prog [] 54 Try.f54 (enAll S) [] 1 s_word_at enc4 (s_word_st S):=by intro K g v; cases v <;> kernel_rfl
def s_word_raw (S:Fns) (n:Nat) (s0:B82) (a1:List UInt8):Option (Bool × B82):=rawN enc4 (s_word_st S) n (.e s0 a1)
theorem s_word_ok {S:Fns} (hS:FnsOk S) (n:Nat):EntryOk Try.prog (e4 54 (s_word_raw S n)):=e4_ok fun _ _ _ hr=>gen_e prog_ok Try.func54 rfl hS (s_word_k S) (fun _ _ _ _ v=>by cases v <;> exact id) rfl rfl hr
inductive s_fail_V where
  | e (s0:B82) (a1:Int)
def s_fail_at:s_fail_V → Pth × List AV × Heap
  | .e s0 a1=>([],startT Try.f49 [.ptr (some (0,0)),.dat (.int .i64 a1)],[b82 s0 0])
def s_fail_st (S:Fns) (r:B82 → Prop) (l:s_fail_V → Prop):s_fail_V → Prop
  | .e s0 a1=>cnd (s0.c4 == 0) (bn (S.s_now s0) fun x1=>an (okG 34 x1.1) (r (B82.mk x1.2.c0 x1.2.c1 x1.2.c2 (cI x1.1 3) a1))) (r s0)
theorem s_fail_k (S:Fns):KOk Try.prog [] 49 Try.f49 (enAll S) [] 1 s_fail_at enc1 (s_fail_st S):=by intro K g v; cases v <;> kernel_rfl
def s_fail_raw (S:Fns) (n:Nat) (s0:B82) (a1:Int):Option (B82):=rawN enc1 (s_fail_st S) n (.e s0 a1)
theorem s_fail_ok {S:Fns} (hS:FnsOk S) (n:Nat):EntryOk Try.prog (e1 49 (s_fail_raw S n)):=e1_ok fun _ _ _ hr=>gen_e prog_ok Try.func49 rfl hS (s_fail_k S) (fun _ _ _ _ v=>by cases v <;> exact id) rfl rfl hr
inductive g_IndexByte_V where
  | e (a0:List UInt8) (a1:Int)
def g_IndexByte_at:g_IndexByte_V → Pth × List AV × Heap
  | .e a0 a1=>([],startT Try.f34 [.dat (.str a0),.dat (.int .u8 a1)],[])
def g_IndexByte_st (S:Fns) (r:Int → Prop) (l:g_IndexByte_V → Prop):g_IndexByte_V → Prop
  | .e a0 a1=>bn (S.g_sIndexByte a0 a1) fun x1=>r x1
theorem g_IndexByte_k (S:Fns):KOk Try.prog [] 34 Try.f34 (enAll S) [] 0 g_IndexByte_at enc28 (g_IndexByte_st S):=by intro K g v; cases v <;> kernel_rfl
def g_IndexByte_raw (S:Fns) (n:Nat) (a0:List UInt8) (a1:Int):Option (Int):=rawN enc28 (g_IndexByte_st S) n (.e a0 a1)
theorem g_IndexByte_ok {S:Fns} (hS:FnsOk S) (n:Nat):EntryOk Try.prog (e28 34 (g_IndexByte_raw S n)):=e28_ok fun _ _ _ hr=>gen_e prog_ok Try.func34 rfl hS (g_IndexByte_k S) (fun _ _ _ _ v=>by cases v <;> exact id) rfl rfl hr
inductive S_Query_V where
  | e (a0:List UInt8)
def S_Query_at:S_Query_V → Pth × List AV × Heap
  | .e a0=>([],startT Try.f23 [.dat (.str a0)],[])
def S_Query_st (S:Fns) (r:D × Int × Int → Prop) (l:S_Query_V → Prop):S_Query_V → Prop
  | .e a0=>bn (S.s_readQ a0 0) fun x1=>an (okG 54 x1.1) (fl x1.1 [2,3,4,5,6,7,9] (r ((G 54 x1.1),x1.2.1,x1.2.2)))
theorem S_Query_k (S:Fns):KOk Try.prog [] 23 Try.f23 (enAll S) [] 0 S_Query_at enc17 (S_Query_st S):=by intro K g v; cases v <;> kernel_rfl
def S_Query_raw (S:Fns) (n:Nat) (a0:List UInt8):Option (D × Int × Int):=rawN enc17 (S_Query_st S) n (.e a0)
theorem S_Query_ok {S:Fns} (hS:FnsOk S) (n:Nat):EntryOk Try.prog (e17 23 54 (S_Query_raw S n)):=e17_ok fun _ _ hr=>gen_e prog_ok Try.func23 rfl hS (S_Query_k S) (fun _ _ _ _ v=>by cases v <;> exact id) rfl rfl hr
inductive s_Expr1_V where
  | e (s0:B82)
def s_Expr1_at:s_Expr1_V → Pth × List AV × Heap
  | .e s0=>([],startT Try.f26 [.ptr (some (0,0))],[b82 s0 0])
def s_Expr1_st (S:Fns) (r:D × B82 → Prop) (l:s_Expr1_V → Prop):s_Expr1_V → Prop
  | .e s0=>bn (S.s_expr s0) fun x1=>an (okG 38 x1.1) (fl x1.1 [4,5] (r ((G 38 x1.1),x1.2)))
theorem s_Expr1_k (S:Fns):KOk Try.prog [] 26 Try.f26 (enAll S) [] 1 s_Expr1_at enc0 (s_Expr1_st S):=by intro K g v; cases v <;> kernel_rfl
def s_Expr1_raw (S:Fns) (n:Nat) (s0:B82):Option (D × B82):=rawN enc0 (s_Expr1_st S) n (.e s0)
theorem s_Expr1_ok {S:Fns} (hS:FnsOk S) (n:Nat):EntryOk Try.prog (e0 26 38 (s_Expr1_raw S n)):=e0_ok fun _ _ hr=>gen_e prog_ok Try.func26 rfl hS (s_Expr1_k S) (fun _ _ _ _ v=>by cases v <;> exact id) rfl rfl hr
inductive t_digit_V where
  | e (a0:Int)
def t_digit_at:t_digit_V → Pth × List AV × Heap
  | .e a0=>([],startT Try.f38 [.dat (.int .u8 a0)],[])
def t_digit_st (S:Fns) (r:Bool → Prop) (l:t_digit_V → Prop):t_digit_V → Prop
  | .e a0=>cnd (decide (a0 ≥ 48)) (r (decide (a0 ≤ 57))) (r false)
theorem t_digit_k (S:Fns):KOk Try.prog [] 38 Try.f38 (enAll S) [] 0 t_digit_at enc20 (t_digit_st S):=by intro K g v; cases v <;> kernel_rfl
def t_digit_raw (S:Fns) (n:Nat) (a0:Int):Option (Bool):=rawN enc20 (t_digit_st S) n (.e a0)
theorem t_digit_ok {S:Fns} (hS:FnsOk S) (n:Nat):EntryOk Try.prog (e20 38 (t_digit_raw S n)):=e20_ok fun _ _ hr=>gen_e prog_ok Try.func38 rfl hS (t_digit_k S) (fun _ _ _ _ v=>by cases v <;> exact id) rfl rfl hr
end
end Go.Proofs.Ytfdcjngclelnhaa
