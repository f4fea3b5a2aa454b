/- Walks by the logic of calls, and plain laws (several texts in one). -/
import Derived.Test.YtjnjegclenjlbaaGreatDoorGh3
import Derived.Test.YtjnjegclenjlbaaGreatDoorProg
import Derived.KernelRfl
namespace Go.Gh
open Go Go.Proofs
abbrev i0:Value:= .int .i64 0
abbrev u0:Value:= .int .u8 0
abbrev s0:Value:= .string ⟨#[]⟩
abbrev n0:Value:= .slice none 0 0
abbrev b0:Value:= .bool false
abbrev f0 (n:String) (t i o:Nat):Field:= .mk n t i false "" "runtime" o
abbrev f1 (n:String) (t i o:Nat):Field:= .mk n t i false "" "" o
abbrev f2 (n:String) (t i o:Nat):Field:= .mk n t i false "" "allonge/rule" o
abbrev f3 (n:String) (t i o:Nat):Field:= .mk n t i false "" "allonge/fair" o
abbrev f4 (n:String) (t i o:Nat):Field:= .mk n t i false "" "allonge/clearing" o
abbrev f5 (n:String) (t i o:Nat):Field:= .mk n t i false "" "allonge/term" o
abbrev f6 (n:String) (t i o:Nat):Field:= .mk n t i false "" "strings" o
abbrev f7 (n:String) (t i o:Nat):Field:= .mk n t i false "" "errors" o
def tab:Tab:=[
 (0,⟨.tuple #[],1,0,.tuple #[]⟩),
 (1,⟨.func #[] #[] false,1,8,.nilFunc⟩),
 (2,⟨.int .i64,1,8,i0⟩),
 (3,⟨.int .i64,1,8,i0⟩),
 (4,⟨.bool,1,1,b0⟩),
 (5,⟨.int .u8,1,1,u0⟩),
 (6,⟨.int .u8,1,1,u0⟩),
 (7,⟨.struct #[f0 "x" 2 0 0,f0 "y" 3 1 8,f0 "signed" 4 2 16,f0 "code" 6 3 17],4,24,.agg #[i0,i0,b0,u0]⟩),
 (8,⟨.struct #[f0 "x" 2 0 0,f0 "y" 3 1 8,f0 "signed" 4 2 16,f0 "code" 6 3 17],4,24,.agg #[i0,i0,b0,u0]⟩),
 (9,⟨.string,1,16,s0⟩),
 (10,⟨.string,1,16,s0⟩),
 (11,⟨.string,1,16,s0⟩),
 (12,⟨.int .u64,1,8,.int .u64 0⟩),
 (13,⟨.struct #[f0 "msg" 9 0 0,f0 "addr" 12 1 16],2,24,.agg #[s0,.int .u64 0]⟩),
 (14,⟨.struct #[f0 "msg" 9 0 0,f0 "addr" 12 1 16],2,24,.agg #[s0,.int .u64 0]⟩),
 (15,⟨.pointer 311,1,8,.pointer none⟩),
 (16,⟨.pointer 314,1,8,.pointer none⟩),
 (17,⟨.pointer 323,1,8,.pointer none⟩),
 (20,⟨.interface #[],1,16,.nilIface⟩),
 (21,⟨.int .i32,1,4,.int .i32 0⟩),
 (22,⟨.slice 25,1,24,n0⟩),
 (23,⟨.func #[] #[4] false,1,8,.nilFunc⟩),
 (24,⟨.struct #[f1 "Kind" 3 0 0,f1 "Room" 3 1 8,f1 "Day" 3 2 16,f1 "No" 3 3 24,f1 "From" 3 4 32,f1 "To" 3 5 40,f1 "Currency" 3 6 48,f1 "Due" 3 7 56,f1 "Sum" 3 8 64],9,72,.agg #[i0,i0,i0,i0,i0,i0,i0,i0,i0]⟩),
 (25,⟨.struct #[f1 "Kind" 3 0 0,f1 "Room" 3 1 8,f1 "Day" 3 2 16,f1 "No" 3 3 24,f1 "From" 3 4 32,f1 "To" 3 5 40,f1 "Currency" 3 6 48,f1 "Due" 3 7 56,f1 "Sum" 3 8 64],9,72,.agg #[i0,i0,i0,i0,i0,i0,i0,i0,i0]⟩),
 (26,⟨.slice 82,1,24,n0⟩),
 (27,⟨.slice 31,1,24,n0⟩),
 (28,⟨.tuple #[26,27],1,0,.tuple #[n0,n0]⟩),
 (29,⟨.func #[3,3,3,22] #[26,27] false,1,8,.nilFunc⟩),
 (30,⟨.func #[22,27] #[3] false,1,8,.nilFunc⟩),
 (31,⟨.int .i64,1,8,i0⟩),
 (32,⟨.func #[3,3,3,22] #[22] false,1,8,.nilFunc⟩),
 (33,⟨.func #[3,3,3,22] #[26] false,1,8,.nilFunc⟩),
 (34,⟨.slice 37,1,24,n0⟩),
 (35,⟨.slice 3,1,24,n0⟩),
 (36,⟨.func #[26,3] #[3] false,1,8,.nilFunc⟩),
 (37,⟨.array 2 3,2,16,.agg #[i0,i0]⟩),
 (38,⟨.slice 35,1,24,n0⟩),
 (39,⟨.func #[3,34] #[38] false,1,8,.nilFunc⟩),
 (40,⟨.slice 43,1,24,n0⟩),
 (41,⟨.func #[38,3] #[3] false,1,8,.nilFunc⟩),
 (42,⟨.struct #[f1 "Supports" 38 0 0],1,24,.agg #[n0]⟩),
 (43,⟨.struct #[f1 "Supports" 38 0 0],1,24,.agg #[n0]⟩),
 (44,⟨.func #[40,45,35] #[35] false,1,8,.nilFunc⟩),
 (45,⟨.slice 4,1,24,n0⟩),
 (46,⟨.func #[3,3,3,22,3] #[4] false,1,8,.nilFunc⟩),
 (47,⟨.tuple #[35,35,31],1,0,.tuple #[n0,n0,i0]⟩),
 (48,⟨.func #[3,51] #[35,35,31] false,1,8,.nilFunc⟩),
 (49,⟨.struct #[f1 "From" 3 0 0,f1 "To" 3 1 8,f1 "Sum" 3 2 16],3,24,.agg #[i0,i0,i0]⟩),
 (50,⟨.struct #[f1 "From" 3 0 0,f1 "To" 3 1 8,f1 "Sum" 3 2 16],3,24,.agg #[i0,i0,i0]⟩),
 (51,⟨.slice 50,1,24,n0⟩),
 (52,⟨.slice 156,1,24,n0⟩),
 (53,⟨.tuple #[52,3,31],1,0,.tuple #[n0,i0,i0]⟩),
 (54,⟨.func #[9] #[52,3,31] false,1,8,.nilFunc⟩),
 (55,⟨.slice 66,1,24,n0⟩),
 (56,⟨.tuple #[55,31],1,0,.tuple #[n0,i0]⟩),
 (57,⟨.func #[60,35,63] #[55,31] false,1,8,.nilFunc⟩),
 (58,⟨.struct #[f1 "Firm" 3 0 0,f1 "Day" 3 1 8,f1 "Pot" 3 2 16],3,24,.agg #[i0,i0,i0]⟩),
 (59,⟨.struct #[f1 "Firm" 3 0 0,f1 "Day" 3 1 8,f1 "Pot" 3 2 16],3,24,.agg #[i0,i0,i0]⟩),
 (60,⟨.slice 59,1,24,n0⟩),
 (61,⟨.struct #[f1 "Bill" 3 0 0,f1 "Estate" 3 1 8,f1 "Sum" 3 2 16],3,24,.agg #[i0,i0,i0]⟩),
 (62,⟨.struct #[f1 "Bill" 3 0 0,f1 "Estate" 3 1 8,f1 "Sum" 3 2 16],3,24,.agg #[i0,i0,i0]⟩),
 (63,⟨.slice 62,1,24,n0⟩),
 (64,⟨.func #[35,35] #[4] false,1,8,.nilFunc⟩),
 (65,⟨.struct #[f1 "Proof" 3 0 0,f1 "Sum" 3 1 8],2,16,.agg #[i0,i0]⟩),
 (66,⟨.struct #[f1 "Proof" 3 0 0,f1 "Sum" 3 1 8],2,16,.agg #[i0,i0]⟩),
 (67,⟨.func #[3,3,3,22] #[4] false,1,8,.nilFunc⟩),
 (68,⟨.pointer 110,1,8,.pointer none⟩),
 (69,⟨.tuple #[68,26,27],1,0,.tuple #[.pointer none,n0,n0]⟩),
 (70,⟨.func #[3,3,3,22] #[68,26,27] false,1,8,.nilFunc⟩),
 (71,⟨.tuple #[22,22],1,0,.tuple #[n0,n0]⟩),
 (72,⟨.func #[3,3,3,22] #[22,22] false,1,8,.nilFunc⟩),
 (73,⟨.func #[22,74] #[4] false,1,8,.nilFunc⟩),
 (74,⟨.func #[25] #[4] false,1,8,.nilFunc⟩),
 (75,⟨.func #[3,3,3] #[4] false,1,8,.nilFunc⟩),
 (76,⟨.func #[22,25] #[4] false,1,8,.nilFunc⟩),
 (77,⟨.func #[22,3,3] #[4] false,1,8,.nilFunc⟩),
 (78,⟨.func #[22,79] #[] false,1,8,.nilFunc⟩),
 (79,⟨.func #[25,25] #[3] false,1,8,.nilFunc⟩),
 (80,⟨.func #[] #[26] false,1,8,.nilFunc⟩),
 (81,⟨.struct #[f1 "Kind" 3 0 0,f1 "Room" 3 1 8,f1 "No" 3 2 16,f1 "Sum" 3 3 24],4,32,.agg #[i0,i0,i0,i0]⟩),
 (82,⟨.struct #[f1 "Kind" 3 0 0,f1 "Room" 3 1 8,f1 "No" 3 2 16,f1 "Sum" 3 3 24],4,32,.agg #[i0,i0,i0,i0]⟩),
 (83,⟨.func #[3,34] #[4] false,1,8,.nilFunc⟩),
 (84,⟨.slice 45,1,24,n0⟩),
 (85,⟨.func #[38,3] #[45] false,1,8,.nilFunc⟩),
 (86,⟨.map 3 4,1,8,.map none⟩),
 (87,⟨.map 3 4,1,8,.map none⟩),
 (88,⟨.tuple #[87,87,4],1,0,.tuple #[.map none,.map none,b0]⟩),
 (89,⟨.func #[40,45,35,4] #[87,87,4] false,1,8,.nilFunc⟩),
 (90,⟨.func #[87,126] #[35] true,1,8,.nilFunc⟩),
 (91,⟨.func #[3,51] #[4] false,1,8,.nilFunc⟩),
 (92,⟨.func #[3,51,35] #[] false,1,8,.nilFunc⟩),
 (93,⟨.func #[3,51,35] #[35] false,1,8,.nilFunc⟩),
 (94,⟨.func #[3,51,35,35,3] #[] false,1,8,.nilFunc⟩),
 (95,⟨.slice 148,1,24,n0⟩),
 (96,⟨.tuple #[95,3,31],1,0,.tuple #[n0,i0,i0]⟩),
 (97,⟨.func #[9] #[95,3,31] false,1,8,.nilFunc⟩),
 (98,⟨.struct #[f2 "pos" 3 0 0,f2 "e" 31 1 8],2,16,.agg #[i0,i0]⟩),
 (99,⟨.struct #[f2 "pos" 3 0 0,f2 "e" 31 1 8],2,16,.agg #[i0,i0]⟩),
 (100,⟨.tuple #[99,4],1,0,.tuple #[.agg #[i0,i0],b0]⟩),
 (101,⟨.pointer 103,1,8,.pointer none⟩),
 (102,⟨.struct #[f2 "l" 95 0 0,f2 "at" 3 1 24,f2 "end" 3 2 32,f2 "list" 52 3 40],4,64,.agg #[n0,i0,i0,n0]⟩),
 (103,⟨.struct #[f2 "l" 95 0 0,f2 "at" 3 1 24,f2 "end" 3 2 32,f2 "list" 52 3 40],4,64,.agg #[n0,i0,i0,n0]⟩),
 (104,⟨.func #[60,35,63] #[4] false,1,8,.nilFunc⟩),
 (105,⟨.func #[3,3,35,63,106] #[3] false,1,8,.nilFunc⟩),
 (106,⟨.func #[3,3] #[] false,1,8,.nilFunc⟩),
 (107,⟨.func #[3,3] #[4] false,1,8,.nilFunc⟩),
 (108,⟨.map 3 3,1,8,.map none⟩),
 (109,⟨.struct #[f3 "n" 3 0 0,f3 "rooms" 3 1 8,f3 "closing" 3 2 16,f3 "closed" 4 3 24,f3 "offers" 22 4 32,f3 "cleared" 108 5 56],6,64,.agg #[i0,i0,i0,b0,n0,.map none]⟩),
 (110,⟨.struct #[f3 "n" 3 0 0,f3 "rooms" 3 1 8,f3 "closing" 3 2 16,f3 "closed" 4 3 24,f3 "offers" 22 4 32,f3 "cleared" 108 5 56],6,64,.agg #[i0,i0,i0,b0,n0,.map none]⟩),
 (111,⟨.tuple #[26,31],1,0,.tuple #[n0,i0]⟩),
 (112,⟨.func #[25,22] #[26,31] false,1,8,.nilFunc⟩),
 (113,⟨.func #[3,3,25] #[31] false,1,8,.nilFunc⟩),
 (114,⟨.func #[22,74] #[3] false,1,8,.nilFunc⟩),
 (115,⟨.func #[22,25] #[3] false,1,8,.nilFunc⟩),
 (116,⟨.func #[22,3,3,3,79] #[] false,1,8,.nilFunc⟩),
 (117,⟨.func #[118] #[3] false,1,8,.nilFunc⟩),
 (118,⟨.int .u64,1,8,.int .u64 0⟩),
 (119,⟨.func #[35] #[] false,1,8,.nilFunc⟩),
 (120,⟨.func #[35] #[35] false,1,8,.nilFunc⟩),
 (121,⟨.func #[40] #[4] false,1,8,.nilFunc⟩),
 (122,⟨.func #[35,123] #[4] false,1,8,.nilFunc⟩),
 (123,⟨.func #[3] #[4] false,1,8,.nilFunc⟩),
 (124,⟨.func #[45] #[45] false,1,8,.nilFunc⟩),
 (125,⟨.func #[40,45] #[87] false,1,8,.nilFunc⟩),
 (126,⟨.slice 87,1,24,n0⟩),
 (127,⟨.func #[129] #[35] false,1,8,.nilFunc⟩),
 (128,⟨.func #[123] #[] false,1,8,.nilFunc⟩),
 (129,⟨.func #[123] #[] false,1,8,.nilFunc⟩),
 (130,⟨.func #[87] #[129] false,1,8,.nilFunc⟩),
 (131,⟨.slice 140,1,24,n0⟩),
 (132,⟨.func #[51,35] #[131] false,1,8,.nilFunc⟩),
 (133,⟨.slice 137,1,24,n0⟩),
 (134,⟨.tuple #[133,35],1,0,.tuple #[n0,n0]⟩),
 (135,⟨.func #[3,131,35] #[133,35] false,1,8,.nilFunc⟩),
 (136,⟨.struct #[f4 "c" 3 0 0,f4 "steps" 3 1 8,f4 "fine" 4 2 16],3,24,.agg #[i0,i0,b0]⟩),
 (137,⟨.struct #[f4 "c" 3 0 0,f4 "steps" 3 1 8,f4 "fine" 4 2 16],3,24,.agg #[i0,i0,b0]⟩),
 (138,⟨.func #[137] #[4] false,1,8,.nilFunc⟩),
 (139,⟨.struct #[f4 "due" 3 0 0,f4 "from" 3 1 8,f4 "to" 3 2 16,f4 "cost" 3 3 24,f4 "most" 3 4 32,f4 "back" 4 5 40],6,48,.agg #[i0,i0,i0,i0,i0,b0]⟩),
 (140,⟨.struct #[f4 "due" 3 0 0,f4 "from" 3 1 8,f4 "to" 3 2 16,f4 "cost" 3 3 24,f4 "most" 3 4 32,f4 "back" 4 5 40],6,48,.agg #[i0,i0,i0,i0,i0,b0]⟩),
 (141,⟨.func #[35,3] #[] false,1,8,.nilFunc⟩),
 (142,⟨.func #[3,140] #[3] false,1,8,.nilFunc⟩),
 (143,⟨.struct #[f4 "best" 35 0 0,f4 "last" 35 1 24,f4 "onward" 142 2 48,f4 "less" 107 3 56],4,64,.agg #[n0,n0,.nilFunc,.nilFunc]⟩),
 (144,⟨.struct #[f4 "best" 35 0 0,f4 "last" 35 1 24,f4 "onward" 142 2 48,f4 "less" 107 3 56],4,64,.agg #[n0,n0,.nilFunc,.nilFunc]⟩),
 (145,⟨.func #[131] #[] false,1,8,.nilFunc⟩),
 (146,⟨.func #[9] #[3] false,1,8,.nilFunc⟩),
 (147,⟨.struct #[f1 "Kind" 3 0 0,f1 "Text" 9 1 8,f1 "N" 3 2 24,f1 "Pos" 3 3 32],4,40,.agg #[i0,s0,i0,i0]⟩),
 (148,⟨.struct #[f1 "Kind" 3 0 0,f1 "Text" 9 1 8,f1 "N" 3 2 24,f1 "Pos" 3 3 32],4,40,.agg #[i0,s0,i0,i0]⟩),
 (149,⟨.tuple #[148,3,31],1,0,.tuple #[.agg #[i0,s0,i0,i0],i0,i0]⟩),
 (150,⟨.func #[9] #[148,3,31] false,1,8,.nilFunc⟩),
 (151,⟨.func #[9] #[] false,1,8,.nilFunc⟩),
 (152,⟨.func #[] #[9] false,1,8,.nilFunc⟩),
 (153,⟨.slice 165,1,24,n0⟩),
 (154,⟨.slice 173,1,24,n0⟩),
 (155,⟨.struct #[f1 "Name" 9 0 0,f1 "Accepts" 4 1 16,f1 "Choices" 153 2 24,f1 "Rules" 154 3 48],4,72,.agg #[s0,b0,n0,n0]⟩),
 (156,⟨.struct #[f1 "Name" 9 0 0,f1 "Accepts" 4 1 16,f1 "Choices" 153 2 24,f1 "Rules" 154 3 48],4,72,.agg #[s0,b0,n0,n0]⟩),
 (157,⟨.func #[52,158] #[4] false,1,8,.nilFunc⟩),
 (158,⟨.func #[156] #[4] false,1,8,.nilFunc⟩),
 (159,⟨.func #[31] #[] false,1,8,.nilFunc⟩),
 (160,⟨.func #[9] #[4] false,1,8,.nilFunc⟩),
 (161,⟨.func #[162] #[] false,1,8,.nilFunc⟩),
 (162,⟨.pointer 156,1,8,.pointer none⟩),
 (163,⟨.func #[153,167] #[] false,1,8,.nilFunc⟩),
 (164,⟨.struct #[f1 "Ask" 3 0 0,f1 "By" 3 1 8,f1 "Whole" 4 2 16],3,24,.agg #[i0,i0,b0]⟩),
 (165,⟨.struct #[f1 "Ask" 3 0 0,f1 "By" 3 1 8,f1 "Whole" 4 2 16],3,24,.agg #[i0,i0,b0]⟩),
 (166,⟨.func #[3,3] #[3] false,1,8,.nilFunc⟩),
 (167,⟨.func #[165,165] #[3] false,1,8,.nilFunc⟩),
 (168,⟨.func #[154,174] #[] false,1,8,.nilFunc⟩),
 (169,⟨.slice 171,1,24,n0⟩),
 (170,⟨.struct #[f1 "Op" 3 0 0,f1 "N" 3 1 8,f1 "Args" 169 2 16],3,40,.agg #[i0,i0,n0]⟩),
 (171,⟨.struct #[f1 "Op" 3 0 0,f1 "N" 3 1 8,f1 "Args" 169 2 16],3,40,.agg #[i0,i0,n0]⟩),
 (172,⟨.struct #[f1 "Ask" 3 0 0,f1 "Term" 171 1 8],4,48,.agg #[i0,i0,i0,n0]⟩),
 (173,⟨.struct #[f1 "Ask" 3 0 0,f1 "Term" 171 1 8],4,48,.agg #[i0,i0,i0,n0]⟩),
 (174,⟨.func #[173,173] #[3] false,1,8,.nilFunc⟩),
 (175,⟨.map 37 4,1,8,.map none⟩),
 (176,⟨.func #[3,3,3] #[3] false,1,8,.nilFunc⟩),
 (177,⟨.func #[22] #[26,31] false,1,8,.nilFunc⟩),
 (178,⟨.func #[3] #[26] false,1,8,.nilFunc⟩),
 (179,⟨.func #[22,3,3,79] #[] false,1,8,.nilFunc⟩),
 (180,⟨.int .i64,1,8,i0⟩),
 (181,⟨.tuple #[3,180],1,0,.tuple #[i0,i0]⟩),
 (182,⟨.func #[22,3,3,79] #[3,180] false,1,8,.nilFunc⟩),
 (183,⟨.func #[22,3,3,79] #[4] false,1,8,.nilFunc⟩),
 (184,⟨.func #[22,3,3,3,79] #[3] false,1,8,.nilFunc⟩),
 (185,⟨.tuple #[3,4],1,0,.tuple #[i0,b0]⟩),
 (186,⟨.func #[22,3,3,3,79] #[3,4] false,1,8,.nilFunc⟩),
 (187,⟨.func #[188] #[3] false,1,8,.nilFunc⟩),
 (188,⟨.int .u32,1,4,.int .u32 0⟩),
 (189,⟨.func #[190] #[3] false,1,8,.nilFunc⟩),
 (190,⟨.int .u64,1,8,.int .u64 0⟩),
 (191,⟨.func #[35,3,3,3] #[] false,1,8,.nilFunc⟩),
 (192,⟨.func #[35,3] #[4] false,1,8,.nilFunc⟩),
 (193,⟨.func #[35,123] #[3] false,1,8,.nilFunc⟩),
 (194,⟨.func #[43,87] #[4] false,1,8,.nilFunc⟩),
 (195,⟨.func #[137,140] #[137] false,1,8,.nilFunc⟩),
 (196,⟨.func #[140] #[137] false,1,8,.nilFunc⟩),
 (197,⟨.func #[137,137] #[4] false,1,8,.nilFunc⟩),
 (198,⟨.struct #[f4 "best" 133 0 0,f4 "last" 35 1 24,f4 "onward" 195 2 48,f4 "less" 197 3 56],4,64,.agg #[n0,n0,.nilFunc,.nilFunc]⟩),
 (199,⟨.struct #[f4 "best" 133 0 0,f4 "last" 35 1 24,f4 "onward" 195 2 48,f4 "less" 197 3 56],4,64,.agg #[n0,n0,.nilFunc,.nilFunc]⟩),
 (200,⟨.pointer 144,1,8,.pointer none⟩),
 (201,⟨.func #[35,3] #[35] false,1,8,.nilFunc⟩),
 (202,⟨.func #[9,203] #[3] false,1,8,.nilFunc⟩),
 (203,⟨.func #[5] #[4] false,1,8,.nilFunc⟩),
 (204,⟨.func #[9] #[3,4] false,1,8,.nilFunc⟩),
 (205,⟨.tuple #[9,3],1,0,.tuple #[s0,i0]⟩),
 (206,⟨.func #[9] #[9,3] false,1,8,.nilFunc⟩),
 (207,⟨.array 13 5,13,13,.agg (Array.mk (List.replicate 13 u0))⟩),
 (208,⟨.func #[52,158] #[3] false,1,8,.nilFunc⟩),
 (209,⟨.func #[210] #[3] false,1,8,.nilFunc⟩),
 (210,⟨.slice 9,1,24,n0⟩),
 (211,⟨.func #[] #[210] false,1,8,.nilFunc⟩),
 (212,⟨.func #[153,213] #[4] false,1,8,.nilFunc⟩),
 (213,⟨.func #[165] #[4] false,1,8,.nilFunc⟩),
 (214,⟨.func #[154,215] #[4] false,1,8,.nilFunc⟩),
 (215,⟨.func #[173] #[4] false,1,8,.nilFunc⟩),
 (216,⟨.func #[] #[171] false,1,8,.nilFunc⟩),
 (217,⟨.tuple #[3,31],1,0,.tuple #[i0,i0]⟩),
 (218,⟨.func #[171] #[3,31] false,1,8,.nilFunc⟩),
 (219,⟨.func #[153,3,3,3,167] #[] false,1,8,.nilFunc⟩),
 (220,⟨.func #[154,3,3,3,174] #[] false,1,8,.nilFunc⟩),
 (221,⟨.tuple #[190,190],1,0,.tuple #[.int .u64 0,.int .u64 0]⟩),
 (222,⟨.func #[190,190] #[190,190] false,1,8,.nilFunc⟩),
 (223,⟨.func #[190,190,190] #[190,190] false,1,8,.nilFunc⟩),
 (224,⟨.map 226 4,1,8,.map none⟩),
 (225,⟨.struct #[f3 "currency" 3 0 0,f3 "due" 3 1 8],2,16,.agg #[i0,i0]⟩),
 (226,⟨.struct #[f3 "currency" 3 0 0,f3 "due" 3 1 8],2,16,.agg #[i0,i0]⟩),
 (227,⟨.func #[25] #[226] false,1,8,.nilFunc⟩),
 (228,⟨.func #[226,229] #[] false,1,8,.nilFunc⟩),
 (229,⟨.func #[25] #[3] false,1,8,.nilFunc⟩),
 (230,⟨.int .u64,1,8,.int .u64 0⟩),
 (231,⟨.func #[3] #[118] false,1,8,.nilFunc⟩),
 (232,⟨.func #[] #[190] false,1,8,.nilFunc⟩),
 (233,⟨.func #[22,3,234,79] #[3] false,1,8,.nilFunc⟩),
 (234,⟨.pointer 3,1,8,.pointer none⟩),
 (235,⟨.func #[22,3,3,3,234,79] #[3] false,1,8,.nilFunc⟩),
 (236,⟨.func #[35,3,3] #[] false,1,8,.nilFunc⟩),
 (237,⟨.func #[35,3,3] #[3,180] false,1,8,.nilFunc⟩),
 (238,⟨.func #[35,3,3] #[4] false,1,8,.nilFunc⟩),
 (239,⟨.func #[35,3,3,3] #[3] false,1,8,.nilFunc⟩),
 (240,⟨.func #[35,3,3,3] #[3,4] false,1,8,.nilFunc⟩),
 (241,⟨.func #[38,243] #[4] false,1,8,.nilFunc⟩),
 (242,⟨.func #[35,87] #[4] false,1,8,.nilFunc⟩),
 (243,⟨.func #[35] #[4] false,1,8,.nilFunc⟩),
 (244,⟨.func #[35,129] #[35] false,1,8,.nilFunc⟩),
 (245,⟨.pointer 199,1,8,.pointer none⟩),
 (246,⟨.tuple #[118,118],1,0,.tuple #[.int .u64 0,.int .u64 0]⟩),
 (247,⟨.func #[118,118] #[118,118] false,1,8,.nilFunc⟩),
 (248,⟨.slice 5,1,24,n0⟩),
 (249,⟨.func #[210,9] #[3] false,1,8,.nilFunc⟩),
 (250,⟨.func #[9] #[210] false,1,8,.nilFunc⟩),
 (251,⟨.func #[153,213] #[3] false,1,8,.nilFunc⟩),
 (252,⟨.func #[154,215] #[3] false,1,8,.nilFunc⟩),
 (253,⟨.map 3 9,1,8,.map none⟩),
 (254,⟨.func #[] #[253] false,1,8,.nilFunc⟩),
 (255,⟨.func #[171,3] #[3] false,1,8,.nilFunc⟩),
 (256,⟨.func #[153,3,3,167] #[] false,1,8,.nilFunc⟩),
 (257,⟨.func #[153,3,3,167] #[3,180] false,1,8,.nilFunc⟩),
 (258,⟨.func #[153,3,3,167] #[4] false,1,8,.nilFunc⟩),
 (259,⟨.func #[153,3,3,3,167] #[3] false,1,8,.nilFunc⟩),
 (260,⟨.func #[153,3,3,3,167] #[3,4] false,1,8,.nilFunc⟩),
 (261,⟨.func #[154,3,3,174] #[] false,1,8,.nilFunc⟩),
 (262,⟨.func #[154,3,3,174] #[3,180] false,1,8,.nilFunc⟩),
 (263,⟨.func #[154,3,3,174] #[4] false,1,8,.nilFunc⟩),
 (264,⟨.func #[154,3,3,3,174] #[3] false,1,8,.nilFunc⟩),
 (265,⟨.func #[154,3,3,3,174] #[3,4] false,1,8,.nilFunc⟩),
 (266,⟨.interface #[("Error",152)],1,16,.nilIface⟩),
 (267,⟨.interface #[("Error",152)],1,16,.nilIface⟩),
 (268,⟨.pointer 230,1,8,.pointer none⟩),
 (269,⟨.tuple #[3,3],1,0,.tuple #[i0,i0]⟩),
 (270,⟨.func #[22,3,3,234,79] #[3,3] false,1,8,.nilFunc⟩),
 (271,⟨.func #[35,3,234] #[3] false,1,8,.nilFunc⟩),
 (272,⟨.func #[35,3,3,3,234] #[3] false,1,8,.nilFunc⟩),
 (273,⟨.func #[38,243] #[3] false,1,8,.nilFunc⟩),
 (274,⟨.tuple #[188,188],1,0,.tuple #[.int .u32 0,.int .u32 0]⟩),
 (275,⟨.func #[188,188] #[188,188] false,1,8,.nilFunc⟩),
 (276,⟨.array 256 5,256,256,.agg (List.toArray (List.append (List.append [u0,u0,u0,u0,u0,u0,u0,u0,u0,u0,u0,u0,u0,u0,u0,u0,u0,u0,u0,u0,u0,u0,u0,u0,u0,u0,u0,u0,u0,u0,u0,u0,u0,u0,u0,u0,u0,u0,u0,u0,u0,u0,u0,u0,u0,u0,u0,u0,u0,u0,u0,u0,u0,u0,u0,u0,u0,u0,u0,u0,u0,u0,u0,u0] [u0,u0,u0,u0,u0,u0,u0,u0,u0,u0,u0,u0,u0,u0,u0,u0,u0,u0,u0,u0,u0,u0,u0,u0,u0,u0,u0,u0,u0,u0,u0,u0,u0,u0,u0,u0,u0,u0,u0,u0,u0,u0,u0,u0,u0,u0,u0,u0,u0,u0,u0,u0,u0,u0,u0,u0,u0,u0,u0,u0,u0,u0,u0,u0]) (List.append [u0,u0,u0,u0,u0,u0,u0,u0,u0,u0,u0,u0,u0,u0,u0,u0,u0,u0,u0,u0,u0,u0,u0,u0,u0,u0,u0,u0,u0,u0,u0,u0,u0,u0,u0,u0,u0,u0,u0,u0,u0,u0,u0,u0,u0,u0,u0,u0,u0,u0,u0,u0,u0,u0,u0,u0,u0,u0,u0,u0,u0,u0,u0,u0] [u0,u0,u0,u0,u0,u0,u0,u0,u0,u0,u0,u0,u0,u0,u0,u0,u0,u0,u0,u0,u0,u0,u0,u0,u0,u0,u0,u0,u0,u0,u0,u0,u0,u0,u0,u0,u0,u0,u0,u0,u0,u0,u0,u0,u0,u0,u0,u0,u0,u0,u0,u0,u0,u0,u0,u0,u0,u0,u0,u0,u0,u0,u0,u0])))⟩),
 (277,⟨.func #[9,278] #[210] false,1,8,.nilFunc⟩),
 (278,⟨.func #[21] #[4] false,1,8,.nilFunc⟩),
 (279,⟨.struct #[f5 "args" 35 0 0,f5 "result" 3 1 24],2,32,.agg #[n0,i0]⟩),
 (280,⟨.struct #[f5 "args" 35 0 0,f5 "result" 3 1 24],2,32,.agg #[n0,i0]⟩),
 (281,⟨.func #[3] #[280] false,1,8,.nilFunc⟩),
 (282,⟨.func #[153,3,234,167] #[3] false,1,8,.nilFunc⟩),
 (283,⟨.func #[153,3,3,3,234,167] #[3] false,1,8,.nilFunc⟩),
 (284,⟨.func #[154,3,234,174] #[3] false,1,8,.nilFunc⟩),
 (285,⟨.func #[154,3,3,3,234,174] #[3] false,1,8,.nilFunc⟩),
 (286,⟨.func #[35,3,3,234] #[3,3] false,1,8,.nilFunc⟩),
 (287,⟨.slice 289,1,24,n0⟩),
 (288,⟨.struct #[f6 "start" 3 0 0,f6 "end" 3 1 8],2,16,.agg #[i0,i0]⟩),
 (289,⟨.struct #[f6 "start" 3 0 0,f6 "end" 3 1 8],2,16,.agg #[i0,i0]⟩),
 (290,⟨.func #[291,21] #[4] false,1,8,.nilFunc⟩),
 (291,⟨.pointer 299,1,8,.pointer none⟩),
 (292,⟨.func #[3] #[3] false,1,8,.nilFunc⟩),
 (293,⟨.func #[3] #[3,4] false,1,8,.nilFunc⟩),
 (294,⟨.func #[153,3,3,234,167] #[3,3] false,1,8,.nilFunc⟩),
 (295,⟨.func #[154,3,3,234,174] #[3,3] false,1,8,.nilFunc⟩),
 (296,⟨.slice 302,1,24,n0⟩),
 (297,⟨.slice 305,1,24,n0⟩),
 (298,⟨.struct #[f1 "R16" 296 0 0,f1 "R32" 297 1 24,f1 "LatinOffset" 3 2 48],3,56,.agg #[n0,n0,i0]⟩),
 (299,⟨.struct #[f1 "R16" 296 0 0,f1 "R32" 297 1 24,f1 "LatinOffset" 3 2 48],3,56,.agg #[n0,n0,i0]⟩),
 (300,⟨.int .u16,1,2,.int .u16 0⟩),
 (301,⟨.struct #[f1 "Lo" 300 0 0,f1 "Hi" 300 1 2,f1 "Stride" 300 2 4],3,6,.agg #[.int .u16 0,.int .u16 0,.int .u16 0]⟩),
 (302,⟨.struct #[f1 "Lo" 300 0 0,f1 "Hi" 300 1 2,f1 "Stride" 300 2 4],3,6,.agg #[.int .u16 0,.int .u16 0,.int .u16 0]⟩),
 (303,⟨.func #[296,300] #[4] false,1,8,.nilFunc⟩),
 (304,⟨.struct #[f1 "Lo" 188 0 0,f1 "Hi" 188 1 4,f1 "Stride" 188 2 8],3,12,.agg #[.int .u32 0,.int .u32 0,.int .u32 0]⟩),
 (305,⟨.struct #[f1 "Lo" 188 0 0,f1 "Hi" 188 1 4,f1 "Stride" 188 2 8],3,12,.agg #[.int .u32 0,.int .u32 0,.int .u32 0]⟩),
 (306,⟨.func #[297,188] #[4] false,1,8,.nilFunc⟩),
 (307,⟨.pointer 302,1,8,.pointer none⟩),
 (308,⟨.pointer 305,1,8,.pointer none⟩),
 (309,⟨.pointer 325,1,8,.pointer none⟩),
 (310,⟨.struct #[f0 "_interface" 17 0 0,f0 "concrete" 17 1 8,f0 "asserted" 17 2 16,f0 "missingMethod" 9 3 24],4,40,.agg #[.pointer none,.pointer none,.pointer none,s0]⟩),
 (311,⟨.struct #[f0 "_interface" 17 0 0,f0 "concrete" 17 1 8,f0 "asserted" 17 2 16,f0 "missingMethod" 9 3 24],4,40,.agg #[.pointer none,.pointer none,.pointer none,s0]⟩),
 (312,⟨.array 0 16,0,0,.agg #[]⟩),
 (313,⟨.struct #[f0 "_" 312 0 0],0,0,.agg #[]⟩),
 (314,⟨.struct #[f0 "_" 312 0 0],0,0,.agg #[]⟩),
 (315,⟨.func #[] #[3] false,1,8,.nilFunc⟩),
 (316,⟨.int .u8,1,1,u0⟩),
 (317,⟨.int .u8,1,1,u0⟩),
 (318,⟨.func #[326,326] #[4] false,1,8,.nilFunc⟩),
 (319,⟨.pointer 5,1,8,.pointer none⟩),
 (320,⟨.int .i32,1,4,.int .i32 0⟩),
 (321,⟨.int .i32,1,4,.int .i32 0⟩),
 (322,⟨.struct #[f1 "Size_" 12 0 0,f1 "PtrBytes" 12 1 8,f1 "Hash" 188 2 16,f1 "TFlag" 316 3 20,f1 "Align_" 5 4 21,f1 "FieldAlign_" 5 5 22,f1 "Kind_" 317 6 23,f1 "Equal" 318 7 24,f1 "GCData" 319 8 32,f1 "Str" 320 9 40,f1 "PtrToThis" 321 10 44],11,48,.agg #[.int .u64 0,.int .u64 0,.int .u32 0,u0,u0,u0,u0,.nilFunc,.pointer none,.int .i32 0,.int .i32 0]⟩),
 (323,⟨.struct #[f1 "Size_" 12 0 0,f1 "PtrBytes" 12 1 8,f1 "Hash" 188 2 16,f1 "TFlag" 316 3 20,f1 "Align_" 5 4 21,f1 "FieldAlign_" 5 5 22,f1 "Kind_" 317 6 23,f1 "Equal" 318 7 24,f1 "GCData" 319 8 32,f1 "Str" 320 9 40,f1 "PtrToThis" 321 10 44],11,48,.agg #[.int .u64 0,.int .u64 0,.int .u32 0,u0,u0,u0,u0,.nilFunc,.pointer none,.int .i32 0,.int .i32 0]⟩),
 (324,⟨.struct #[f7 "s" 9 0 0],1,16,.agg #[s0]⟩),
 (325,⟨.struct #[f7 "s" 9 0 0],1,16,.agg #[s0]⟩)]
instance seatLaid:Laid:=⟨[(0,tabD .u8 [40,41,44,59,58,61,60,43,45,42,46,123,125]),(3,tabD .u8 [0,0,0,0,0,0,0,0,0,1,1,1,1,1,0,0,0,0,0,0,0,0,0,0,0,0,0,0,0,0,0,0,1,0,0,0,0,0,0,0,0,0,0,0,0,0,0,0,0,0,0,0,0,0,0,0,0,0,0,0,0,0,0,0,0,0,0,0,0,0,0,0,0,0,0,0,0,0,0,0,0,0,0,0,0,0,0,0,0,0,0,0,0,0,0,0,0,0,0,0,0,0,0,0,0,0,0,0,0,0,0,0,0,0,0,0,0,0,0,0,0,0,0,0,0,0,0,0,0,0,0,0,0,0,0,0,0,0,0,0,0,0,0,0,0,0,0,0,0,0,0,0,0,0,0,0,0,0,0,0,0,0,0,0,0,0,0,0,0,0,0,0,0,0,0,0,0,0,0,0,0,0,0,0,0,0,0,0,0,0,0,0,0,0,0,0,0,0,0,0,0,0,0,0,0,0,0,0,0,0,0,0,0,0,0,0,0,0,0,0,0,0,0,0,0,0,0,0,0,0,0,0,0,0,0,0,0,0,0,0,0,0,0,0,0,0,0,0,0,0,0,0,0,0,0,0])]⟩
theorem tab_ok:TabOK Tryz.prog tab:=by
 unfold tab
 repeat (first|exact TabOK.nil _|refine TabOK.cons ⟨by kernel_rfl,by kernel_rfl⟩ ?_)
theorem env:Env Tryz.prog tab:=⟨tab_ok,by kernel_rfl⟩
set_option maxRecDepth 1000000
set_option maxHeartbeats 2000000
set_option linter.unusedSimpArgs false
set_option linter.unusedVariables false
set_option linter.unnecessarySimpa false
open Go.RowKit
class Dep where
 d:Nat
def In64 (n:Int):Prop:= -9223372036854775808≤n∧n≤9223372036854775807
def letter (c:Int):Bool:=decide (97≤c)&&decide (c≤122)||decide (65≤c)&&decide (c≤90)
def digit (c:Int):Bool:=decide (48≤c)&&decide (c≤57)
def bs (s:ByteArray):List UInt8:=s.data.toList
instance :Inhabited ByteArray:=⟨⟨#[]⟩⟩
def strC (s:ByteArray):List D:=[.sc (.string s)]
abbrev rowS (l:List ByteArray):G:= .d (.row default strC l)
def inC (n:Int):List D:=[.sc (.int .i64 n)]
theorem dropC {α:Type} [Inhabited α] {l:List α} {i:Nat} (h:i<l.length):l.drop i=l.getD i default::l.drop (i+1):=by
 rw[List.getD_eq_getElem?_getD,List.getElem?_eq_getElem h];exact List.drop_eq_getElem_cons h
theorem dropN {α:Type} {l:List α} {i:Nat} (h:¬i<l.length):l.drop i= []:=List.drop_eq_nil_of_le (by omega)
theorem take_getD {α:Type} [Inhabited α] {l:List α} {k:Nat} (h:k<l.length):l.take (k+1)=l.take k++ [l.getD k default]:=by
 rw[List.take_succ_eq_append_getElem h,List.getD_eq_getElem?_getD,List.getElem?_eq_getElem h];rfl
theorem putD_all {α:Type} [Inhabited α] {cs:α→List D} {xs:List α} {i:Nat} {x:α} {ds:List D} (hi:i<xs.length) (hd:ds=cs x) (hl:(cs (xs.getD i default)).length=(cs x).length):putD (rowL cs xs) i 0 ds=rowL cs (xs.set i x):=by
 have e:(rowL cs xs).getD i []=cs (xs.getD i default):=by
  simp[rowL,List.getD_eq_getElem?_getD,List.getElem?_eq_getElem hi]
 subst hd
 rw[putD,e]
 simp only[rowL,List.map_set,List.take_zero,List.nil_append,Nat.zero_add]
 rw[List.drop_of_length_le (by rw[hl];exact Nat.le_refl _),List.append_nil]
theorem Ent.rowEq {α β:Type} {df:α} {cs:α→List D} {xs:List α} {df':β} {cs':β→List D} {ys:List β} (h:rowL cs xs=rowL cs' ys):Ent (.d (.row df cs xs)) (.d (.row df' cs' ys)):=fun ν F w v hv=>by
 have hlen:xs.length=ys.length:=by have:=congrArg List.length h;simpa [rowL]using this
 have hel:∀(i:Nat) e,ys[i]? =some e→∃e',xs[i]? =some e'∧cs e'=cs' e:=fun i e he=>by
  have h1:(rowL cs' ys)[i]? =some (cs' e):=by simp[rowL,he]
  rw[←h]at h1
  simp only[rowL,List.getElem?_map,Option.map_eq_some_iff]at h1
  exact h1
 cases hv with
 |d hd=>cases hd with
  |row _ _ _ A c b off es val hA hc hl hw hF hd=>
   rw[hlen]
   refine .d (.row df' cs' ys A c b off es val (fun hy=>hA fun hx=>hy (List.eq_nil_of_length_eq_zero (by rw[←hlen,hx];rfl))) (by omega) (fun e he=> ?_) (fun i e j x a1 a2=> ?_) (fun i e j x a1 a2=> ?_) (fun i e j x a1 a2=> ?_))
   ·obtain ⟨i,hi⟩:=List.getElem?_of_mem he
    obtain ⟨e',h1,h2⟩:=hel i e hi
    rw[←h2];exact hl _ (List.mem_of_getElem? h1)
   ·obtain ⟨e',h1,h2⟩:=hel i e a1
    exact hw i e' j x h1 (h2▸a2)
   ·obtain ⟨e',h1,h2⟩:=hel i e a1
    exact hF i e' j x h1 (h2▸a2)
   ·obtain ⟨e',h1,h2⟩:=hel i e a1
    exact hd i e' j x h1 (h2▸a2)
def findI {α:Type} (p:α→Bool):List α→Nat→Int
 | [],_=> -1
 |x::l,i=>if p x=true then i else findI p l (i+1)
theorem findI_any {α:Type} (p:α→Bool):∀(l:List α) (i:Nat),decide (0≤findI p l i)=l.any p:=by
 intro l
 induction l with
 |nil=>intro i;rfl
 |cons x l ih=>
  intro i
  rw[findI,List.any_cons]
  cases h:p x with
  |true=>rw[if_pos rfl];simp
  |false=>rw[if_neg (by simp),ih];simp
theorem indexS_ok (l:List ByteArray) (hl:l.length≤9223372036854775807) (x:ByteArray):GC Tryz.prog 153 [rowS l,sG x] (iG (findI (fun y=>decide (y=x)) l 0)):=by
 refine gc_of_gk Tryz.func153 ?_
 refine gk_region env false [] [0,1,4] ?_
 refine gk_region env false [] [0,1,4,7,8] ?_
 refine gk_loop (α:=Nat) (fun i=>i≤l.length∧findI (fun y=>decide (y=x)) l 0=findI (fun y=>decide (y=x)) (l.drop i) i) (fun i=>[(8,iG i)]) (fun _=>[]) (fun i=>l.length-i) 0 ⟨by omega,rfl⟩ ?_
 rintro i ⟨hi,he⟩
 refine gk_region env false [] [0,1,4,7,8,9] ?_
 refine gk_ifd (fun c1=> ?_) (fun c1=> ?_)
 ·try simp only[toN]at c1
  refine gk_region env false [] [0,1,4,5,7,8] ?_
  refine gk_region env false [] [0,1,4,5,7,8,16] ?_
  refine gk_ifd (fun c2=> ?_) (fun c2=> ?_)
  ·try simp only[toN]at c2
   refine gk_region env false [] [0,1,4,7,8] ?_
   refine gk_ret env ?_
   rw[he,dropC (by omega),findI,if_pos (by simpa using c2.symm)];rfl
  ·try simp only[toN]at c2
   refine gk_region env false [] [0,1,4,7,8] ?_
   refine gk_round (i+1) ?_
   refine ⟨by omega,he.trans ?_⟩
   rw[dropC (by omega),findI,if_neg (by simpa using fun e=>c2 e.symm)]
 ·try simp only[toN]at c1
  refine gk_region env false [] [4] ?_
  refine gk_ret env ?_
  rw[he,dropN (by omega)];rfl
end Go.Gh
